/- Caches of the program: places, touches of a copy, empty caches. -/
import Derived.Test.YtlkdngjpbohgaaaCac
namespace Go.Proofs.Ytlkdngjpbohgaaa
open Go.RowKit Go.Sort

theorem callIsPlace (p : Int) (w : World) : Calls Try.prog 57 #[.int .i64 p] w fun e w' => e = .returned (.bool (plOk p)) ∧ w = w' := by
  have E : Hid (plOk p = inB p 0 4095) := rfl
  go_enter Try.func57, Try.ntmps57
  go_wp2_with (go_at_call 61; refine (callIn _ _ _ _).mono ?_; rintro e w' ⟨rfl, rfl⟩)
  go_ret
  exact ⟨by rw [E.out] <;> rfl, rfl⟩
theorem callPlaceBad (p : Int) (w : World) : Calls Try.prog 70 #[.int .i64 p] w fun e w' => e = .returned (.bool (!plOk p)) ∧ Below w.heap.size w w' := by
  go_enter Try.func70, Try.ntmps70
  go_wp2_with (go_at_call 57; refine (callIsPlace _ _).mono ?_; rintro e w' ⟨rfl, rfl⟩)
  go_ret
  exact ⟨rfl, Below.refl _ _⟩
theorem egPlaceBad : ∀ (args : Array Value) (w : World), (callFunc 70 args).run Try.prog w = .ok (.enter 70 args) w := enters_fn Try.func70 (by kernel_rfl) rfl
theorem callPlacesOk (A : Option Addr) (c : Nat) (ps : List Int) (w : World) (B : Nat) (hB : B ≤ w.heap.size) (hm : ps.length ≤ 1048576) (hr : Rd eInt w B A ps) :
    Calls Try.prog 39 #[.slice A ps.length c] w fun e w' => e = .returned (.bool (plsOk ps)) ∧ Below w.heap.size w w' := by
  have HC := Lib.hid (callContainsInt A c ps 70 #[] (fun x => !plOk x) w B hB (by omega) hr egPlaceBad (fun x _ w' _ => callPlaceBad x w'))
  have E : Hid (plsOk ps = (decide (ps.length ≤ 60) && !ps.any fun x => !plOk x)) := by rw [not_any_not]; rfl
  clear hr
  generalize (ps.any fun x => !plOk x) = q at *
  by_cases hl : ps.length ≤ 60
  all_goals
    go_enter Try.func39, Try.ntmps39
    go_wp2_with (go_at_call 49; refine HC.out.mono ?_; rintro e w1 ⟨rfl, hb1⟩)
    go_ret
    first | exact ⟨by rw [E.out]; simp [hl], hb1⟩ | exact ⟨by rw [E.out]; simp [hl], Below.refl _ _⟩

set_option maxHeartbeats 800000 in
theorem callEmptyCache (n : Int) (w : World) :
    Calls Try.prog 12 #[.int .i64 n] w fun e w' => ∃ A c, e = .returned (.agg #[.slice A (emptyC n).length c]) ∧ Own eInt 3 w' w.heap.size (.slice A (emptyC n).length c) (emptyC n) ∧ (emptyC n).length ≤ c ∧ Below w.heap.size w w' := by
  cases q : lnB n
  · have E : Hid (emptyC n = []) := by show _ = _; unfold emptyC; rw [q]; rfl
    go_enter Try.func12, Try.ntmps12
    go_wp2_with (go_at_call 37; refine (callLined _ _).mono ?_; rintro e w' ⟨rfl, rfl⟩)
    refine bodyPost_ret (v := .agg #[.slice none 0 0]) (by simp [results, Try.results12, go_sem]) rfl ⟨none, 0, ?_, ?_, ?_, ?_⟩
    · rw [E.out] <;> rfl
    · rw [E.out]; exact Own.none_
    · rw [E.out]; exact Nat.le_refl _
    · exact below1 _ _
  · have hb := lnB_bd q
    obtain ⟨m, rfl⟩ := Int.eq_ofNat_of_zero_le (show 0 ≤ n by omega)
    have E : Hid (emptyC (m : Int) = List.replicate m (-1)) := by show _ = _; unfold emptyC; rw [q, if_pos rfl, Int.toNat_natCast]
    go_enter Try.func12, Try.ntmps12
    go_wp2_with (go_at_call 37; refine (callLined _ _).mono ?_; rintro e w' ⟨rfl, rfl⟩)
    refine (callRepeatInt (w.heap.size + 1) 0 1 (-1) m _ (by simp) (by rw [World.cell?_alloc_at _ _ _ _ (by simp)]; rfl) (by omega) (by omega)).mono ?_
    rintro e w1 ⟨v1, rfl, hown1, hb1⟩
    obtain ⟨A1, c1, hv, hc1, _⟩ := hown1.form
    subst hv
    have hk : w1.heap[w.heap.size]? = some (.cells #[.slice none 0 0] 25 (0, 0)) := blkn (b := w.heap.size) (by rw [heap_alloc_old _ _ (by simp)]; exact heap_alloc_new w _) hb1 (by simp <;> omega)
    obtain ⟨k1, k2, k3⟩ := cell1 hk
    have HB1 := Lib.hid (bel_trans (below2 _ _ _) hb1)
    have HO := Lib.hid hown1
    have HR1 := Lib.hid (res1 hk (.slice A1 (List.replicate m (-1 : Int)).length c1))
    clear hb1 hown1 hk
    go_wp2
    refine bodyPost_ret (v := .agg #[.slice A1 m c1]) (by have := HR1.out; simp at this; simp [results, Try.results12, go_sem, this]) rfl ⟨A1, c1, ?_, ?_, ?_, ?_⟩
    · rw [E.out, List.length_replicate] <;> rfl
    · rw [E.out]
      exact (HO.out.kept (gset 0 _) (fun k hk => by cases hk; simp <;> omega)).more (by simp <;> omega)
    · rw [E.out]; exact hc1
    · exact HB1.out.setCell (by show w.heap.size ≤ w.heap.size; omega) _

set_option maxRecDepth 100000 in
set_option maxHeartbeats 3200000 in
theorem callTouched (A Ap : Option Addr) (c cp : Nat) (h ps : List Int) (w : World) (B : Nat) (hB : B ≤ w.heap.size) (hc : cacheOk h = true) (hcc : h.length ≤ c) (hps : plsOk ps = true) (hr : Rd eInt w B A h) (hrp : Rd eInt w B Ap ps) :
    Calls Try.prog 40 #[.agg #[.slice A h.length c], .slice Ap ps.length cp] w fun e w' => ∃ A' c', e = .returned (.tuple #[.agg #[.slice A' (runC h ps).length c'], .int .i64 (runT h ps)]) ∧ Own eInt 3 w' w.heap.size (.slice A' (runC h ps).length c') (runC h ps) ∧ (runC h ps).length ≤ c' ∧ Below w.heap.size w w' := by
  have hl := cacheOk_len hc
  obtain ⟨hp60, hpo⟩ := plsOk_iff.1 hps
  have HPO : Hid (∀ p ∈ ps, plOk p = true) := hpo
  have HC := Lib.hid hc
  have HR := Lib.hid hr
  have HRP := Lib.hid hrp
  clear hc hps hpo hr hrp
  go_enter Try.func40, Try.ntmps40
  go_wp2_with fail
  refine (callCopyInt A c h _ B (by simp; omega) hcc (by omega) (HR.out.below ((below2 _ _ _).mono hB))).mono ?_
  rintro e w1 ⟨A1, rfl, hown1, hb1⟩
  obtain ⟨A1', c1', hv, _, hf⟩ := hown1.form
  injection hv with hA _ hcc1
  subst hA
  obtain ⟨g, rfl, hg1, hg2⟩ := hf (by intro e; simp [e] at hl)
  have hs1 : w.heap.size + 1 < w1.heap.size := by have := hb1.size; simp at this; omega
  have hg0 : w.heap.size + 1 < g := by simp at hg1; omega
  have HK1 : Hid (w1.heap[w.heap.size + 1]? = some (.cells #[.slice none 0 0] 25 (0, 0))) := blkn (by have := heap_alloc_new (w.alloc (.cells #[.slice A h.length c] 25)) (.cells #[.slice none 0 0] 25); simpa using this) hb1 (by simp)
  have HB1 := Lib.hid (bel_trans (below2 _ _ _) hb1)
  have HO1 : Hid (Own eInt 3 w1 (w.heap.size + 2) (.slice (some ⟨g, 0, none⟩) h.length h.length) h) := by show Own _ _ _ _ _ _; simpa using hown1
  clear hb1 hown1 hf hg1 hcc1
  go_wp2
  go_loopw [7, 16] (fun t i wr => ∃ (k : Nat) (x : Int), k ≤ ps.length ∧ i = .int .i64 k ∧ t = .int .i64 x ∧ 0 ≤ x ∧ x ≤ 8 * k ∧ Below w.heap.size w wr ∧ w1.heap.size < wr.heap.size ∧ Hid (wr.heap[w1.heap.size]? = some (.cells #[.slice (some ⟨g, 0, none⟩) h.length h.length] 25 (0, 0)) ∧ wr.heap[w.heap.size + 1]? = some (.cells #[.slice none 0 0] 25 (0, 0)) ∧ Own eInt 3 wr (w.heap.size + 2) (.slice (some ⟨g, 0, none⟩) h.length h.length) (runC h (ps.take k)) ∧ x = runT h (ps.take k))) (fun _ i _ => ps.length - (intOf i).toNat)
  case atStart => exact ⟨0, 0, by omega, rfl, rfl, by omega, by omega, HB1.out.alloc HB1.out.size _, by simp, heap_alloc_new w1 _, by rw [heap_alloc_old _ _ (by omega)]; exact HK1.out, HO1.out.alloc _, rfl⟩
  case round =>
    obtain ⟨k, x, hk, rfl, rfl, hx0, hx1, hbl, hsz, hH⟩ := hrel
    have HB := Lib.hid hbl
    clear hbl
    have hkx := (cell1 hH.out.1).1
    by_cases hlt : k < ps.length
    · obtain ⟨bp, offp, rfl, hbpB, hpc⟩ := (HRP.out.below (HB.out.mono hB)).at1 rfl hlt rfl
      have hpo := plOk_iff.1 (HPO.out ps[k] (List.getElem_mem hlt))
      have hlen : (runC h (ps.take k)).length = h.length := runC_len _ _
      have HT := callTouch g h.length (runC h (ps.take k)) ps[k] wr (w.heap.size + 2) (by omega) (by omega) (by omega) hpo.1 hpo.2 (by rw [hlen]; exact hH.out.2.2.1)
      rw [hlen, tNew_len, hlen, ← runC_snoc h ps hlt] at HT
      have htb := tTime_bd (runC h (ps.take k)) ps[k]
      obtain ⟨y, hy⟩ : ∃ y, y = tTime (runC h (ps.take k)) ps[k] := ⟨_, rfl⟩
      rw [← hy] at HT htb
      have hst : Hid (x + y = runT h (ps.take (k + 1))) := by show _ = _; rw [runT_snoc h ps hlt, ← hy, hH.out.2.2.2]
      have HTH := Lib.hid HT
      clear HT hy hlen hpo
      go_wp2_with fail
      refine HTH.out.mono ?_
      rintro e w4 ⟨rfl, hown4, hg4⟩
      have HX4 : Hid (w4.heap[w1.heap.size]? = some (.cells #[.slice (some ⟨g, 0, none⟩) h.length h.length] 25 (0, 0))) := gblk hg4 hH.out.1 (by simp; omega)
      have HK4 : Hid (w4.heap[w.heap.size + 1]? = some (.cells #[.slice none 0 0] 25 (0, 0))) := gblk hg4 hH.out.2.1 (by simp; omega)
      have HO4 := Lib.hid hown4
      have HB4 := Lib.hid (gbel HB.out hg4 (by omega) (by omega))
      have hs4 : w1.heap.size < w4.heap.size := by have := hg4.size; omega
      clear hown4 hg4 hpc hkx
      go_wp2
      go_roundw
      case rel => exact ⟨k + 1, x + y, by omega, by go_num, rfl, by omega, by omega, HB4.out, hs4, HX4.out, HK4.out, HO4.out, hst.out⟩
      case measure => simp [intOf]; omega
    · have hke : k = ps.length := by omega
      subst hke
      obtain ⟨k1, k2, k3⟩ := cell1 hH.out.2.1
      have HR1 := Lib.hid (res1 hH.out.2.1 (.slice (some ⟨g, 0, none⟩) h.length h.length))
      have hlen : (runC h ps).length = h.length := runC_len _ _
      have hfin := hH.out.2.2
      rw [List.take_length] at hfin
      have HF := Lib.hid hfin
      have HLN := Lib.hid hlen
      clear hfin hlen
      go_wp2
      refine bodyPost_ret (v := .tuple #[.agg #[.slice (some ⟨g, 0, none⟩) h.length h.length], .int .i64 x]) (by simp [results, Try.results40, go_sem, HR1.out]) rfl ⟨some ⟨g, 0, none⟩, h.length, ?_, ?_, ?_, ?_⟩
      · rw [HLN.out, HF.out.2]
      · rw [HLN.out]
        exact (HF.out.1.kept (gset 0 _) (fun k hk => by cases hk; omega)).more (by omega)
      · rw [HLN.out]; exact Nat.le_refl _
      · exact HB.out.setCell (by show w.heap.size ≤ w.heap.size + 1; omega) _
end Go.Proofs.Ytlkdngjpbohgaaa
