/- Caches of the reference: EmptyCache, TouchTime. -/
import Derived.Test.YtlkdngjpbohgaaaCaf
namespace Go.Proofs.Ytlkdngjpbohgaaa
open Go.RowKit Go.Sort

theorem cacheOk_rep (k : Nat) : cacheOk (List.replicate k (-1)) = lnB (k : Int) := by
  cases hl : lnB (k : Int)
  · cases hc : cacheOk (List.replicate k (-1))
    · rfl
    · have := (cacheOk_iff.1 hc).1
      rw [List.length_replicate, hl] at this; cases this
  · refine cacheOk_iff.2 ⟨by rw [List.length_replicate]; exact hl, fun i hi => by rw [List.getElem_replicate]; rfl⟩

set_option maxRecDepth 100000 in
set_option maxHeartbeats 800000 in
theorem callSEmptyCache (n : Int) (w : World) :
    Calls Try.prog 14 #[.int .i64 n] w fun e w' => ∃ A c, e = .returned (.agg #[.slice A (emptyC n).length c]) ∧ Own eInt 3 w' w.heap.size (.slice A (emptyC n).length c) (emptyC n) ∧ (emptyC n).length ≤ c ∧ Below w.heap.size w w' := by
  have hK0 := blkc (heap_alloc_new w (.cells #[.slice none 0 0] 25)) (below1 _ (.cells #[.slice none 0 0] 25))
  have hX0 := heap_alloc_new (w.alloc (.cells #[.slice none 0 0] 25)) (.cells #[.slice none 0 0] 25)
  rw [World.size_alloc] at hX0
  have HK0 := Lib.hid hK0
  have HX0 := Lib.hid hX0
  clear hK0 hX0
  obtain ⟨bb, hbb⟩ : ∃ bb, bb = lnB n := ⟨_, rfl⟩
  have hM : (∃ M : Nat, n = (M : Int) ∧ M ≤ 17) ∨ n < 0 ∨ 17 < n := by
    by_cases h1 : n < 0
    · exact .inr (.inl h1)
    · by_cases h2 : 17 < n
      · exact .inr (.inr h2)
      · exact .inl ⟨n.toNat, by omega, by omega⟩
  rcases hM with ⟨M, rfl, hM17⟩ | h1 | h1
  · have EL : Hid (lnB ((M : Nat) : Int) = bb) := by
      show _ = _
      rw [hbb]
    have EE : Hid (emptyC (M : Int) = if bb then List.replicate M (-1) else []) := by
      show _ = _
      rw [hbb]
      unfold emptyC
      cases q : lnB (M : Int)
      · rfl
      · simp
    clear hbb
    go_enter Try.func14, Try.ntmps14
    go_wp2
    go_loopw [4] (fun i wr => ∃ (k : Nat) (A : Option Addr) (c : Nat), k ≤ M ∧ i = .int .i64 k ∧ k ≤ c ∧ Below w.heap.size w wr ∧ w.heap.size + 1 < wr.heap.size ∧ Hid (wr.heap[w.heap.size]? = some (.cells #[.slice none 0 0] 25 (0, 0)) ∧ wr.heap[w.heap.size + 1]? = some (.cells #[.slice A k c] 25 (0, 0)) ∧ Own eInt 3 wr (w.heap.size + 2) (.slice A k c) (List.replicate k (-1)))) (fun i _ => 17 - (intOf i).toNat)
    case atStart => exact ⟨0, none, 0, by omega, rfl, by omega, below2 _ _ _, by simp, HK0.out, HX0.out, Own.none_⟩
    case round =>
      obtain ⟨k, A, c, hk, rfl, hkc, hbl, hsz, hH⟩ := hrel
      have HB := Lib.hid hbl
      clear hbl
      obtain ⟨x1, x2, x3⟩ := cell1 hH.out.2.1
      by_cases hlt : k < M
      · have HO5 := Lib.hid (hH.out.2.2.alloc (.cells #[.int .i64 (-1)] 3))
        have HX5 := Lib.hid (blkc hH.out.2.1 (below1 _ (.cells #[.int .i64 (-1)] 3)))
        have HK5 := Lib.hid (blkc hH.out.1 (below1 _ (.cells #[.int .i64 (-1)] 3)))
        go_wp2_with (at_builtin; refine wpList_app _ eiInt rfl (.tmp 13) (.tmp 14) rfl (w.heap.size + 2) HO5.out (Rd.new (xs := [(-1 : Int)]) _ _ _ rfl) rfl rfl rfl (by simp; omega) (by simp; omega) ?_; intro v' w4 row hown4' hg4 hrow4; have hown4 : Own eInt 3 w4 (w.heap.size + 2) v' (List.replicate (k + 1) (-1)) := (by rw [List.replicate_succ']; exact hown4'); obtain ⟨A4, c4, hv4, hc4, _⟩ := hown4.form; rw [List.length_replicate] at hv4 hc4; subst hv4; have HO4 := Lib.hid hown4; have HX4 := Lib.hid (gblk hg4 HX5.out (fun e => by have := (hrow4 _ e.symm).1; omega)); have HK4 := Lib.hid (gblk hg4 HK5.out (fun e => by have := (hrow4 _ e.symm).1; omega)); have HB4 : Hid (Below w.heap.size w w4) := (HB.out.alloc HB.out.size _).trans ((Below.refl _ _).grown hg4 (by have := HB.out.size; simp; omega) (fun k hk => by have := (hrow4 k hk).1; omega)); have hsz4 : w.heap.size + 1 < w4.heap.size := (cell1 HX4.out).2.2; clear hown4 hown4' hg4 hrow4 x1 x2; obtain ⟨x1, x2, _⟩ := cell1 HX4.out)
        have HS := Lib.hid (set1 (u := .slice A4 (k + 1) c4) HX4.out)
        have HKS := Lib.hid (gblk (gset (w := w4) (g := w.heap.size + 1) 0 (.slice A4 (k + 1) c4)) HK4.out (by simp <;> omega))
        have HOS := Lib.hid (HO4.out.kept (gset (w := w4) (g := w.heap.size + 1) 0 (.slice A4 (k + 1) c4)) (fun k hk => by cases hk; omega))
        go_roundw
        case rel => exact ⟨k + 1, A4, c4, by omega, by go_num, hc4, HB4.out.setCell (by show w.heap.size ≤ w.heap.size + 1; omega) _, by simpa using hsz4, HKS.out, HS.out, HOS.out⟩
        case measure => (simp [intOf] <;> omega)
      · have hke : k = M := by omega
        subst hke
        obtain ⟨k1, k2, k3⟩ := cell1 hH.out.1
        have hCV := callSCacheValid A c (List.replicate k (-1)) wr wr.heap.size (Nat.le_refl _) (by rw [List.length_replicate]; omega) hH.out.2.2.rd
        rw [List.length_replicate, cacheOk_rep, EL.out] at hCV
        have HCV := Lib.hid hCV
        clear hCV
        cases bb
        · go_wp2_with fail
          refine HCV.out.mono ?_
          rintro e w5 ⟨rfl, hb5⟩
          have hk5 := blkc hH.out.1 hb5
          obtain ⟨k1, k2, k3⟩ := cell1 hk5
          have HR5 := Lib.hid (res1 hk5 (.slice none 0 0))
          have HB5 := Lib.hid (bel_trans HB.out hb5)
          clear hk5 hb5
          go_wp2
          refine bodyPost_ret (v := .agg #[.slice none 0 0]) (by simp [results, Try.results14, go_sem, HR5.out]) rfl ⟨none, 0, ?_, ?_, ?_, ?_⟩
          · rw [EE.out] <;> rfl
          · rw [EE.out]; exact Own.none_
          · rw [EE.out]; exact Nat.le_refl _
          · exact HB5.out.setCell (by show w.heap.size ≤ w.heap.size; omega) _
        · go_wp2_with fail
          refine HCV.out.mono ?_
          rintro e w5 ⟨rfl, hb5⟩
          have hk5 := blkc hH.out.1 hb5
          have hx5 := blkc hH.out.2.1 hb5
          obtain ⟨k1, k2, k3⟩ := cell1 hk5
          obtain ⟨y1, y2, y3⟩ := cell1 hx5
          have HR5 := Lib.hid (res1 hk5 (.slice A k c))
          have HB5 := Lib.hid (bel_trans HB.out hb5)
          have HO5 := Lib.hid (hH.out.2.2.next hb5)
          clear hk5 hb5 hx5
          go_wp2
          refine bodyPost_ret (v := .agg #[.slice A k c]) (by simp [results, Try.results14, go_sem, HR5.out]) rfl ⟨A, c, ?_, ?_, ?_, ?_⟩
          · rw [EE.out]; simp
          · rw [EE.out]; simp only [if_true, List.length_replicate]
            exact (HO5.out.kept (gset 0 _) (fun k hk => by cases hk; omega)).more (by omega)
          · rw [EE.out]; simpa using hkc
          · exact HB5.out.setCell (by show w.heap.size ≤ w.heap.size; omega) _
  · have EL : Hid (lnB ((0 : Nat) : Int) = bb) := by
      show _ = _
      rw [hbb]
      cases q : lnB n
      · rfl
      · have := lnB_bd q; omega
    have EE : Hid (emptyC n = if bb then List.replicate 0 (-1) else []) := by
      show _ = _
      rw [hbb]
      unfold emptyC
      cases q : lnB n
      · rfl
      · have := lnB_bd q; omega
    clear hbb
    go_enter Try.func14, Try.ntmps14
    go_wp2
    go_loopw [4] (fun i wr => ∃ (k : Nat) (A : Option Addr) (c : Nat), k ≤ 0 ∧ i = .int .i64 k ∧ k ≤ c ∧ Below w.heap.size w wr ∧ w.heap.size + 1 < wr.heap.size ∧ Hid (wr.heap[w.heap.size]? = some (.cells #[.slice none 0 0] 25 (0, 0)) ∧ wr.heap[w.heap.size + 1]? = some (.cells #[.slice A k c] 25 (0, 0)) ∧ Own eInt 3 wr (w.heap.size + 2) (.slice A k c) (List.replicate k (-1)))) (fun i _ => 17 - (intOf i).toNat)
    case atStart => exact ⟨0, none, 0, by omega, rfl, by omega, below2 _ _ _, by simp, HK0.out, HX0.out, Own.none_⟩
    case round =>
      obtain ⟨k, A, c, hk, rfl, hkc, hbl, hsz, hH⟩ := hrel
      have HB := Lib.hid hbl
      clear hbl
      obtain ⟨x1, x2, x3⟩ := cell1 hH.out.2.1
      by_cases hlt : k < 0
      · exact absurd hlt (by omega)
      · have hke : k = 0 := by omega
        subst hke
        obtain ⟨k1, k2, k3⟩ := cell1 hH.out.1
        have hCV := callSCacheValid A c (List.replicate 0 (-1)) wr wr.heap.size (Nat.le_refl _) (by rw [List.length_replicate]; omega) hH.out.2.2.rd
        rw [List.length_replicate, cacheOk_rep, EL.out] at hCV
        have HCV := Lib.hid hCV
        clear hCV
        cases bb
        · go_wp2_with fail
          refine HCV.out.mono ?_
          rintro e w5 ⟨rfl, hb5⟩
          have hk5 := blkc hH.out.1 hb5
          obtain ⟨k1, k2, k3⟩ := cell1 hk5
          have HR5 := Lib.hid (res1 hk5 (.slice none 0 0))
          have HB5 := Lib.hid (bel_trans HB.out hb5)
          clear hk5 hb5
          go_wp2
          refine bodyPost_ret (v := .agg #[.slice none 0 0]) (by simp [results, Try.results14, go_sem, HR5.out]) rfl ⟨none, 0, ?_, ?_, ?_, ?_⟩
          · rw [EE.out] <;> rfl
          · rw [EE.out]; exact Own.none_
          · rw [EE.out]; exact Nat.le_refl _
          · exact HB5.out.setCell (by show w.heap.size ≤ w.heap.size; omega) _
        · exact absurd EL.out (by decide)
  · have EL : Hid (lnB ((17 : Nat) : Int) = bb) := by
      show _ = _
      rw [hbb]
      cases q : lnB n
      · rfl
      · have := lnB_bd q; omega
    have EE : Hid (emptyC n = if bb then List.replicate 17 (-1) else []) := by
      show _ = _
      rw [hbb]
      unfold emptyC
      cases q : lnB n
      · rfl
      · have := lnB_bd q; omega
    clear hbb
    go_enter Try.func14, Try.ntmps14
    go_wp2
    go_loopw [4] (fun i wr => ∃ (k : Nat) (A : Option Addr) (c : Nat), k ≤ 17 ∧ i = .int .i64 k ∧ k ≤ c ∧ Below w.heap.size w wr ∧ w.heap.size + 1 < wr.heap.size ∧ Hid (wr.heap[w.heap.size]? = some (.cells #[.slice none 0 0] 25 (0, 0)) ∧ wr.heap[w.heap.size + 1]? = some (.cells #[.slice A k c] 25 (0, 0)) ∧ Own eInt 3 wr (w.heap.size + 2) (.slice A k c) (List.replicate k (-1)))) (fun i _ => 17 - (intOf i).toNat)
    case atStart => exact ⟨0, none, 0, by omega, rfl, by omega, below2 _ _ _, by simp, HK0.out, HX0.out, Own.none_⟩
    case round =>
      obtain ⟨k, A, c, hk, rfl, hkc, hbl, hsz, hH⟩ := hrel
      have HB := Lib.hid hbl
      clear hbl
      obtain ⟨x1, x2, x3⟩ := cell1 hH.out.2.1
      by_cases hlt : k < 17
      · have HO5 := Lib.hid (hH.out.2.2.alloc (.cells #[.int .i64 (-1)] 3))
        have HX5 := Lib.hid (blkc hH.out.2.1 (below1 _ (.cells #[.int .i64 (-1)] 3)))
        have HK5 := Lib.hid (blkc hH.out.1 (below1 _ (.cells #[.int .i64 (-1)] 3)))
        go_wp2_with (at_builtin; refine wpList_app _ eiInt rfl (.tmp 13) (.tmp 14) rfl (w.heap.size + 2) HO5.out (Rd.new (xs := [(-1 : Int)]) _ _ _ rfl) rfl rfl rfl (by simp; omega) (by simp; omega) ?_; intro v' w4 row hown4' hg4 hrow4; have hown4 : Own eInt 3 w4 (w.heap.size + 2) v' (List.replicate (k + 1) (-1)) := (by rw [List.replicate_succ']; exact hown4'); obtain ⟨A4, c4, hv4, hc4, _⟩ := hown4.form; rw [List.length_replicate] at hv4 hc4; subst hv4; have HO4 := Lib.hid hown4; have HX4 := Lib.hid (gblk hg4 HX5.out (fun e => by have := (hrow4 _ e.symm).1; omega)); have HK4 := Lib.hid (gblk hg4 HK5.out (fun e => by have := (hrow4 _ e.symm).1; omega)); have HB4 : Hid (Below w.heap.size w w4) := (HB.out.alloc HB.out.size _).trans ((Below.refl _ _).grown hg4 (by have := HB.out.size; simp; omega) (fun k hk => by have := (hrow4 k hk).1; omega)); have hsz4 : w.heap.size + 1 < w4.heap.size := (cell1 HX4.out).2.2; clear hown4 hown4' hg4 hrow4 x1 x2; obtain ⟨x1, x2, _⟩ := cell1 HX4.out)
        have HS := Lib.hid (set1 (u := .slice A4 (k + 1) c4) HX4.out)
        have HKS := Lib.hid (gblk (gset (w := w4) (g := w.heap.size + 1) 0 (.slice A4 (k + 1) c4)) HK4.out (by simp <;> omega))
        have HOS := Lib.hid (HO4.out.kept (gset (w := w4) (g := w.heap.size + 1) 0 (.slice A4 (k + 1) c4)) (fun k hk => by cases hk; omega))
        go_roundw
        case rel => exact ⟨k + 1, A4, c4, by omega, by go_num, hc4, HB4.out.setCell (by show w.heap.size ≤ w.heap.size + 1; omega) _, by simpa using hsz4, HKS.out, HS.out, HOS.out⟩
        case measure => (simp [intOf] <;> omega)
      · have hke : k = 17 := by omega
        subst hke
        obtain ⟨k1, k2, k3⟩ := cell1 hH.out.1
        have hCV := callSCacheValid A c (List.replicate 17 (-1)) wr wr.heap.size (Nat.le_refl _) (by rw [List.length_replicate]; omega) hH.out.2.2.rd
        rw [List.length_replicate, cacheOk_rep, EL.out] at hCV
        have HCV := Lib.hid hCV
        clear hCV
        cases bb
        · go_wp2_with fail
          refine HCV.out.mono ?_
          rintro e w5 ⟨rfl, hb5⟩
          have hk5 := blkc hH.out.1 hb5
          obtain ⟨k1, k2, k3⟩ := cell1 hk5
          have HR5 := Lib.hid (res1 hk5 (.slice none 0 0))
          have HB5 := Lib.hid (bel_trans HB.out hb5)
          clear hk5 hb5
          go_wp2
          refine bodyPost_ret (v := .agg #[.slice none 0 0]) (by simp [results, Try.results14, go_sem, HR5.out]) rfl ⟨none, 0, ?_, ?_, ?_, ?_⟩
          · rw [EE.out] <;> rfl
          · rw [EE.out]; exact Own.none_
          · rw [EE.out]; exact Nat.le_refl _
          · exact HB5.out.setCell (by show w.heap.size ≤ w.heap.size; omega) _
        · go_wp2_with fail
          refine HCV.out.mono ?_
          rintro e w5 ⟨rfl, hb5⟩
          have hk5 := blkc hH.out.1 hb5
          have hx5 := blkc hH.out.2.1 hb5
          obtain ⟨k1, k2, k3⟩ := cell1 hk5
          obtain ⟨y1, y2, y3⟩ := cell1 hx5
          have HR5 := Lib.hid (res1 hk5 (.slice A 17 c))
          have HB5 := Lib.hid (bel_trans HB.out hb5)
          have HO5 := Lib.hid (hH.out.2.2.next hb5)
          clear hk5 hb5 hx5
          go_wp2
          refine bodyPost_ret (v := .agg #[.slice A 17 c]) (by simp [results, Try.results14, go_sem, HR5.out]) rfl ⟨A, c, ?_, ?_, ?_, ?_⟩
          · rw [EE.out]; simp
          · rw [EE.out]; simp only [if_true, List.length_replicate]
            exact (HO5.out.kept (gset 0 _) (fun k hk => by cases hk; omega)).more (by omega)
          · rw [EE.out]; simpa using hkc
          · exact HB5.out.setCell (by show w.heap.size ≤ w.heap.size; omega) _

set_option maxRecDepth 100000 in
set_option maxHeartbeats 3200000 in
theorem callSTouchTime (A Ap : Option Addr) (c cp : Nat) (h ps : List Int) (w : World) (B : Nat) (hB : B ≤ w.heap.size) (hm : h.length ≤ 1048576) (hmp : ps.length ≤ 1048576) (hr : Rd eInt w B A h) (hrp : Rd eInt w B Ap ps) :
    Calls Try.prog 33 #[.agg #[.slice A h.length c], .slice Ap ps.length cp] w fun e w' => e = .returned (.int .i64 (touchTime h ps)) ∧ Below w.heap.size w w' := by
  have HR := Lib.hid (hr.below ((below1 w (.cells #[.slice A h.length c] 25)).mono hB))
  have HRP := Lib.hid (hrp.below ((below1 w (.cells #[.slice A h.length c] 25)).mono hB))
  have HJ0 : Hid ((w.alloc (.cells #[.slice A h.length c] 25)).heap[w.heap.size]? = some (.cells #[.slice A h.length c] 25 (0, 0))) := heap_alloc_new w _
  have E : Hid (touchTime h ps = if cacheOk h && plsOk ps then runT h ps else -1) := rfl
  clear hr hrp
  cases hc : cacheOk h
  · have HC := Lib.hid hc
    clear hc
    go_enter Try.func33, Try.ntmps33
    go_wp2_with fail
    refine (callSCacheValid A c h _ B (by simp; omega) hm HR.out).mono ?_
    rintro e w1 ⟨rfl, hb1⟩
    rw [HC.out]
    go_wp2
    go_ret
    exact ⟨by rw [E.out, HC.out] <;> rfl, bel_trans (below1 _ _) hb1⟩
  · have HC := Lib.hid hc
    have hl := cacheOk_len hc
    clear hc
    by_cases h60 : ps.length ≤ 60
    · go_enter Try.func33, Try.ntmps33
      go_wp2_with fail
      refine (callSCacheValid A c h _ B (by simp; omega) hm HR.out).mono ?_
      rintro e w1 ⟨rfl, hb1⟩
      rw [HC.out]
      have HJ1 := Lib.hid (blkc HJ0.out hb1)
      have HB1 := Lib.hid (bel_trans (below1 _ _) hb1)
      have HR1 := Lib.hid (HR.out.below (hb1.mono (by simp; omega)))
      have HRP1 := Lib.hid (HRP.out.below (hb1.mono (by simp; omega)))
      have hs1 : w.heap.size < w1.heap.size := (cell1 HJ1.out).2.2
      clear hb1
      go_wp2
      go_loopw [5, 6] (fun t i wr => ∃ (k : Nat) (x : Int) (A' : Option Addr) (c' : Nat), k ≤ ps.length ∧ i = .int .i64 k ∧ t = .int .i64 x ∧ 0 ≤ x ∧ x ≤ 8 * k ∧ Below w.heap.size w wr ∧ w.heap.size < wr.heap.size ∧ Below B w1 wr ∧ Hid (wr.heap[w.heap.size]? = some (.cells #[.slice A' h.length c'] 25 (0, 0)) ∧ Rd eInt wr wr.heap.size A' (runC h (ps.take k)) ∧ x = runT h (ps.take k) ∧ (∀ i (hi : i < ps.length), i < k → plOk ps[i] = true) ∧ cacheOk (runC h (ps.take k)) = true)) (fun _ i _ => ps.length - (intOf i).toNat)
      case atStart => exact ⟨0, 0, A, c, by omega, rfl, rfl, by omega, by omega, HB1.out, hs1, Below.refl _ _, HJ1.out, HR1.out.mono (Nat.le_trans hB HB1.out.size), rfl, fun i _ hi => by omega, HC.out⟩
      case round =>
        obtain ⟨k, x, A', c', hk, rfl, rfl, hx0, hx1, hbl, hsz, hbB, hH⟩ := hrel
        have HB := Lib.hid hbl
        have HBB := Lib.hid hbB
        clear hbl hbB
        by_cases hlt : k < ps.length
        · have hd : decide ((k : Int) < ps.length) = true := decide_eq_true (by omega)
          obtain ⟨bp, offp, rfl, hbpB, hpc⟩ := (HRP1.out.below HBB.out).at1 rfl hlt rfl
          have hlen : (runC h (ps.take k)).length = h.length := runC_len _ _
          obtain ⟨j1, j2, j3⟩ := cell1 hH.out.1
          have hbpw : bp < wr.heap.size := by have := HBB.out.size; have := HB1.out.size; omega
          obtain ⟨q, hq⟩ : ∃ q, q = runC h (ps.take k) := ⟨_, rfl⟩
          obtain ⟨p, hp⟩ : ∃ p, p = ps[k] := ⟨_, rfl⟩
          rw [← hq] at hlen
          rw [← hp] at hpc
          have HQ := Lib.hid hq
          have HP := Lib.hid hp
          have HT : ∀ W, Below wr.heap.size wr W → Hid (Calls Try.prog 24 #[.agg #[.slice A' h.length c'], .int .i64 p] W fun e w' => ∃ A9 c9, e = .returned (.tuple #[.agg #[.slice A9 (tcNew q p).length c9], .int .i64 (tcTime q p)]) ∧ Own eInt 3 w' W.heap.size (.slice A9 (tcNew q p).length c9) (tcNew q p) ∧ (tcNew q p).length ≤ c9 ∧ Below wr.heap.size wr w' ∧ w'.cell? ⟨w.heap.size, 0, none⟩ = some (.slice A' h.length c') ∧ w'.cell? ⟨bp, offp + k, none⟩ = some (.int .i64 p) ∧ Below W.heap.size W w') := fun W hW => by
            have := callSTouchCache A' c' q p W wr.heap.size hW.size (by omega) (by rw [hq]; exact hH.out.2.1.below hW)
            rw [hlen] at this
            refine this.mono fun e w' ⟨A9, c9, h1, h2, h3, h4⟩ => ⟨A9, c9, h1, h2, h3, bel_trans hW h4, ((bel_trans hW h4).cell (by show w.heap.size < wr.heap.size; omega)).trans j1, ((bel_trans hW h4).cell (by show bp < wr.heap.size; omega)).trans hpc, h4⟩
          clear hq hp
          have r1 : tcOk q p = true → tcTime q p = tTime q p ∧ tcNew q p = tNew q p := fun e => by unfold tcTime tcNew; rw [e]; exact ⟨rfl, rfl⟩
          have R1 := Lib.hid r1
          have htb : -1 ≤ tcTime q p ∧ tcTime q p ≤ 8 := by
            have := tTime_bd q p
            unfold tcTime; split <;> omega
          obtain ⟨y, hy⟩ : ∃ y, y = tcTime q p := ⟨_, rfl⟩
          rw [← hy] at htb
          have HY := Lib.hid hy
          have HBW := Lib.hid (Below.refl wr.heap.size wr)
          have hbps : bp < wr.heap.size := by have := HBB.out.size; have := HB1.out.size; omega
          have u1 := World.new_ne wr _ j1
          have u2 := World.new_ne wr _ hpc
          clear r1 hy
          go_upto_region 7 with (fail)
          go_cut [7, 8] (fun a t w6 => ∃ (X : Nat) (A4 : Option Addr) (c4 : Nat), a = .pointer (some ⟨X, 0, none⟩) ∧ t = .int .i64 y ∧ wr.heap.size ≤ X ∧ Below wr.heap.size wr w6 ∧ Hid (w6.heap[X]? = some (.cells #[.slice A4 (tcNew q p).length c4] 25 (0, 0)) ∧ Own eInt 3 w6 wr.heap.size (.slice A4 (tcNew q p).length c4) (tcNew q p)))
          case first =>
            go_region_held3 (fun w' => w'.cell? ⟨w.heap.size, 0, none⟩ = some (.slice A' h.length c') ∧ w'.cell? ⟨bp, offp + k, none⟩ = some (.int .i64 p)) (first | exact ⟨j1, hpc⟩ | (refine ⟨?_, ?_⟩ <;> assumption) | go_keep)
              (first | (go_at_call 24; refine (HT _ (by first | exact HBW.out | exact HBW.out.drew | exact (HBW.out.drew).alloc (by simp) _)).out.mono ?_; rintro e w6 ⟨A6, c6, rfl, hown6, hc6, hb6, n1, n2, hbW⟩; (first | (have hz := blkc (w := (wr.alloc (.cells #[.slice none 0 0] 25)).drew) (heap_alloc_new wr _) hbW; obtain ⟨z1, z2, z3⟩ := cell1 hz) | skip)))
            · go_wp2_with fail
              go_meet
              case rel => exact ⟨w6.heap.size, A6, c6, rfl, by rw [HY.out], hb6.size, hb6.alloc hb6.size _, heap_alloc_new w6 _, (hown6.more (by simp)).alloc _⟩
            · go_wp2_with fail
              go_meet
              case rel => exact ⟨wr.heap.size, A6, c6, rfl, by rw [HY.out], Nat.le_refl _, hb6.setCell (by show wr.heap.size ≤ wr.heap.size; omega) _, set1 hz, (hown6.kept (gset 0 _) (fun k hk => by cases hk; simp)).more (by simp)⟩
          case rest =>
            obtain ⟨X, A4, c4, rfl, rfl, hXw, hbc, hc4⟩ := hcut
            have HB6 := Lib.hid (bel_trans HB.out hbc)
            have HBB6 : Hid (Below B w1 wc) := HBB.out.trans (hbc.mono (by have := HBB.out.size; have := HB1.out.size; omega))
            have HJ6 := Lib.hid (blkc hH.out.1 hbc)
            clear hbc j1 j2 j3 hpc u1 u2 HT HBW
            obtain ⟨x1, x2, x3⟩ := cell1 hc4.out.1
            obtain ⟨j1, j2, j3⟩ := cell1 HJ6.out
            cases hok : tcOk q p
            · have hy1 : y = -1 := by rw [HY.out]; unfold tcTime; rw [hok]; rfl
              have EE : Hid (touchTime h ps = -1) := by
                show _ = _
                have hcq : cacheOk q = true := by rw [HQ.out]; exact hH.out.2.2.2.2
                have hpk : plOk ps[k] = false := by rw [← HP.out]; unfold tcOk at hok; rw [hcq] at hok; exact hok
                have hpls : plsOk ps = false := by
                  cases hh : plsOk ps
                  · rfl
                  · have := (plsOk_iff.1 hh).2 ps[k] (List.getElem_mem hlt)
                    rw [hpk] at this; cases this
                rw [E.out, hpls, Bool.and_false]; rfl
              clear hok
              subst hy1
              go_wp2
              go_ret
              exact ⟨by rw [EE.out] <;> rfl, HB6.out⟩
            · obtain ⟨e1, e2⟩ := R1.out hok
              have hy1 : 1 ≤ y ∧ y ≤ 8 := by rw [HY.out, e1]; exact tTime_bd q p
              have hpk : plOk ps[k] = true := by rw [← HP.out]; unfold tcOk at hok; rw [Bool.and_eq_true] at hok; exact hok.2
              have hq1 : tcNew q p = runC h (ps.take (k + 1)) := by rw [e2, runC_snoc h ps hlt, ← HQ.out, ← HP.out]
              have hlen2 : (tcNew q p).length = h.length := by rw [hq1]; exact runC_len _ _
              have hst : Hid (x + y = runT h (ps.take (k + 1)) ∧ (∀ i (hi : i < ps.length), i < k + 1 → plOk ps[i] = true) ∧ cacheOk (runC h (ps.take (k + 1))) = true) := by
                refine ⟨?_, fun i hi hik => ?_, ?_⟩
                · rw [runT_snoc h ps hlt, ← HQ.out, ← HP.out, HY.out, e1, hH.out.2.2.1]
                · rcases Nat.lt_or_ge i k with h' | h'
                  · exact hH.out.2.2.2.1 i hi h'
                  · have : i = k := by omega
                    subst this; exact hpk
                · rw [← hq1, e2]
                  exact cacheOk_new (by rw [HQ.out]; exact hH.out.2.2.2.2) (by rw [HP.out]; exact hpk)
              rw [hlen2] at x1
              have HS := Lib.hid (set1 (u := .slice A4 h.length c4) HJ6.out)
              have HRD : Hid (Rd eInt (wc.setCell ⟨w.heap.size, 0, none⟩ (.slice A4 h.length c4)) (wc.setCell ⟨w.heap.size, 0, none⟩ (.slice A4 h.length c4)).heap.size A4 (runC h (ps.take (k + 1)))) := by
                have := hc4.out.2.kept (gset (w := wc) (g := w.heap.size) 0 (.slice A4 h.length c4)) (fun k hk => by cases hk; exact hsz)
                have := this.rd
                rw [hq1] at this
                exact this
              have hs6 : w.heap.size < wc.heap.size := j3
              clear hok e1 e2 hpk hq1 hlen2
              go_wp2
              go_roundw
              case rel => exact ⟨k + 1, x + y, A4, c4, by omega, by go_num, rfl, by omega, by omega, HB6.out.setCell (by show w.heap.size ≤ w.heap.size; omega) _, by simpa using hs6, HBB6.out.setCell (by show B ≤ w.heap.size; exact hB) _, HS.out, HRD.out, hst.out⟩
              case measure => simp [intOf]; omega
        · have hke : k = ps.length := by omega
          subst hke
          have hd : decide ((ps.length : Int) < ps.length) = false := by simp
          have EE : Hid (touchTime h ps = x) := by
            show _ = _
            have h1 := hH.out.2.2
            rw [List.take_length] at h1
            rw [E.out, HC.out, h1.1, plsOk_iff.2 ⟨h60, fun p hp => by obtain ⟨i, hi, rfl⟩ := List.getElem_of_mem hp; exact h1.2.1 i hi hi⟩]; rfl
          go_wp2
          go_ret
          exact ⟨by rw [EE.out] <;> rfl, HB.out⟩
    · have hd : decide ((ps.length : Int) > 60) = true := decide_eq_true (by omega)
      have E2 : Hid (touchTime h ps = -1) := by
        show _ = _
        rw [E.out, HC.out, show plsOk ps = false by unfold plsOk; rw [decide_eq_false h60]; rfl]; rfl
      go_enter Try.func33, Try.ntmps33
      go_wp2_with fail
      refine (callSCacheValid A c h _ B (by simp; omega) hm HR.out).mono ?_
      rintro e w1 ⟨rfl, hb1⟩
      rw [HC.out]
      go_wp2
      go_ret
      exact ⟨by rw [E2.out] <;> rfl, bel_trans (below1 _ _) hb1⟩
end Go.Proofs.Ytlkdngjpbohgaaa
