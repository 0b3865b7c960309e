/- StepCore of the program, for every input. -/
import Derived.Test.YtiodpnhokjkjaaaCov
import Derived.Test.YtiodpnhokjkjaaaCol
import Derived.Test.YtiodpnhokjkjaaaCoj
namespace Go.Proofs.Ytiodpnhokjkjaaa
open Go.RowKit Go.Sort

set_option maxRecDepth 100000 in
set_option maxHeartbeats 3200000 in
theorem callStepCore (A : Option Addr) (c : Nat) (cr : Cor) (Ao : Option Addr) (co : Nat) (os : List Ord3) (cells clock : Int) (w : World) (B : Nat) (hB : B ≤ w.heap.size) (hc : cr.cs.length ≤ c) (hm : cr.cs.length ≤ 1048576) (hm2 : os.length ≤ 1048576) (hr : Rd eInt w B A cr.cs) (hr2 : Rd eOrd w B Ao os) :
    Calls Try.prog 42 #[.agg #[.slice A cr.cs.length c, .int .i64 cr.at', .bool cr.stop], .slice Ao os.length co, .int .i64 cells, .int .i64 clock] w (StpOut w (stepRes cr os cells clock)) := by
  have HB0 := Lib.hid (below3 w (.cells #[.slice A cr.cs.length c, .int .i64 cr.at', .bool cr.stop] 33) (.cells #[.slice none 0 0, .int .i64 0, .bool false] 33) (.cells #[.int .i64 0, .int .i64 0, .int .i64 0] 41))
  have V := Lib.hid (callCoreValid A c cr Ao co os cells (((w.alloc (.cells #[.slice A cr.cs.length c, .int .i64 cr.at', .bool cr.stop] 33)).alloc (.cells #[.slice none 0 0, .int .i64 0, .bool false] 33)).alloc (.cells #[.int .i64 0, .int .i64 0, .int .i64 0] 41)) B (by simp; omega) hm hm2 (hr.below (HB0.out.mono hB)) (hr2.below (HB0.out.mono hB)))
  have HRO := Lib.hid hr2
  have HRA := Lib.hid hr
  have K0 : Hid ((((w.alloc (.cells #[.slice A cr.cs.length c, .int .i64 cr.at', .bool cr.stop] 33)).alloc (.cells #[.slice none 0 0, .int .i64 0, .bool false] 33)).alloc (.cells #[.int .i64 0, .int .i64 0, .int .i64 0] 41)).heap[w.heap.size]? = some (.cells #[.slice A cr.cs.length c, .int .i64 cr.at', .bool cr.stop] 33 (0, 0))) := blkc (alloc_at0 w _ _) (below1 _ _)
  have K1 : Hid ((((w.alloc (.cells #[.slice A cr.cs.length c, .int .i64 cr.at', .bool cr.stop] 33)).alloc (.cells #[.slice none 0 0, .int .i64 0, .bool false] 33)).alloc (.cells #[.int .i64 0, .int .i64 0, .int .i64 0] 41)).heap[w.heap.size + 1]? = some (.cells #[.slice none 0 0, .int .i64 0, .bool false] 33 (0, 0))) := blkc (alloc_at1 w _ _) (below1 _ _)
  have K2 : Hid ((((w.alloc (.cells #[.slice A cr.cs.length c, .int .i64 cr.at', .bool cr.stop] 33)).alloc (.cells #[.slice none 0 0, .int .i64 0, .bool false] 33)).alloc (.cells #[.int .i64 0, .int .i64 0, .int .i64 0] 41)).heap[w.heap.size + 1 + 1]? = some (.cells #[.int .i64 0, .int .i64 0, .int .i64 0] 41 (0, 0))) := by
    have := heap_alloc_new ((w.alloc (.cells #[.slice A cr.cs.length c, .int .i64 cr.at', .bool cr.stop] 33)).alloc (.cells #[.slice none 0 0, .int .i64 0, .bool false] 33)) (.cells #[.int .i64 0, .int .i64 0, .int .i64 0] 41)
    rw [World.size_alloc, World.size_alloc] at this
    exact this
  have HBAD : Hid ((coreB cr os cells && decide (0 ≤ clock)) = false → stepRes cr os cells clock = (⟨[], 0, false⟩, ⟨0, 0, 0⟩)) := stepRes_bad
  have HGOOD : Hid (coreB cr os cells = true → 0 ≤ clock → stepRes cr os cells clock = (corStep cr os clock, corOrd cr os)) := stepRes_good
  obtain ⟨r, hrr⟩ : ∃ r, r = stepRes cr os cells clock := ⟨_, rfl⟩
  rw [← hrr] at HBAD HGOOD ⊢
  clear hr hr2 hrr
  go_enter Try.func42, Try.ntmps42
  go_wp2_with fail
  refine V.out.mono ?_
  rintro e w2 ⟨rfl, hb2⟩
  have HB2 := Lib.hid (bel_trans HB0.out hb2)
  have KB2 := Lib.hid (blkc K0.out hb2)
  have KR2 := Lib.hid (blkc K1.out hb2)
  have KO2 := Lib.hid (blkc K2.out hb2)
  have hs3 : w.heap.size + 1 + 1 < w2.heap.size := (cell3 KO2.out).2.2.2.2.2.2
  clear hb2 V HB0 K0 K1 K2
  by_cases hbad : coreB cr os cells = false ∨ clock < 0
  · have hrb := HBAD.out (by
      rcases hbad with h | h
      · rw [h]; rfl
      · rw [decide_eq_false (by omega), Bool.and_false])
    subst hrb
    have hway : ∀ (q : Bool), coreB cr os cells = q → (q = false ∨ (q = true ∧ decide (clock < 0) = true)) := fun q hq => by
      rcases hbad with h | h
      · rw [hq] at h; exact .inl h
      · cases q
        · exact .inl rfl
        · exact .inr ⟨rfl, decide_eq_true h⟩
    obtain ⟨q, hq⟩ : ∃ q, q = coreB cr os cells := ⟨_, rfl⟩
    have hway2 := hway q hq.symm
    rw [← hq]
    clear hq hway hbad HBAD HGOOD
    obtain ⟨a0, a1, a2, a3, a4, a5, a6⟩ := cell3 KR2.out
    obtain ⟨d0, d1, d2, d3, d4, d5, d6⟩ := cell3 KO2.out
    have HF := fin6 (A := none) (c := 0) (cs := []) HB2.out Own.none_ KR2.out KO2.out hs3 (.slice none 0 0) (.int .i64 0) (.bool false) (.int .i64 0) (.int .i64 0) (.int .i64 0)
    unfold set6 at HF
    have HFF := Lib.hid HF
    obtain ⟨f0, f1, f2, _, _, _, _⟩ := cell3 HFF.out.2.2.1
    obtain ⟨g0, g1, g2, _, _, _, _⟩ := cell3 HFF.out.2.2.2
    clear HF
    rcases hway2 with rfl | ⟨rfl, hd⟩
    all_goals
      go_wp2
      exact bodyPost_ret (v := .tuple #[.agg #[.slice none 0 0, .int .i64 0, .bool false], .agg #[.int .i64 0, .int .i64 0, .int .i64 0]]) (by simp [results, Try.results42, go_sem, f0, f1, f2, g0, g1, g2]) rfl ⟨none, 0, rfl, HFF.out.1, Nat.le_refl _, HFF.out.2.1⟩
  · have q1 : coreB cr os cells = true := by
      cases q : coreB cr os cells
      · exact absurd (.inl q) hbad
      · rfl
    have hck : 0 ≤ clock := by
      rcases Int.lt_or_le clock 0 with h | h
      · exact absurd (.inr h) hbad
      · exact h
    have hdt : decide (clock < 0) = false := decide_eq_false (by omega)
    have HG := Lib.hid (HGOOD.out q1 hck)
    have HOK := Lib.hid q1
    rw [q1]
    clear HBAD HGOOD hbad q1
    obtain ⟨x0, x1, x2, _, _, _, x6⟩ := cell3 KB2.out
    go_wp2_with fail
    refine (callCopyOf A c cr w2 B (Nat.le_trans hB HB2.out.size) hc hm (HRA.out.below (HB2.out.mono hB))).mono ?_
    rintro e w4 ⟨A4, c4, rfl, hown4, hc4, hb4⟩
    have hXs : w2.heap.size ≤ w4.heap.size := hb4.size
    have HRr := Lib.hid (HRO.out.below (HB2.out.mono hB))
    have CS := Lib.hid (callStep w4.heap.size w2.heap.size w2.heap.size B A4 c4 cr Ao co os cells clock (w4.alloc (.cells #[.slice A4 cr.cs.length c4, .int .i64 cr.at', .bool cr.stop] 33)) (heap_alloc_new _ _) (hown4.alloc _) HOK.out hck hXs (Nat.le_refl _) (by simp; omega) (Nat.le_trans hB HB2.out.size) (HRr.out.below ((bel_trans hb4 (below1 w4 (.cells #[.slice A4 cr.cs.length c4, .int .i64 cr.at', .bool cr.stop] 33))).mono (Nat.le_trans hB HB2.out.size))))
    have HB4 := Lib.hid (bel_trans hb4 (below1 w4 (.cells #[.slice A4 cr.cs.length c4, .int .i64 cr.at', .bool cr.stop] 33)))
    have HS4 := Lib.hid hXs
    go_wp2_with fail
    refine CS.out.mono ?_
    rintro e w5 ⟨rfl, hx5, ho5, hb5⟩
    have HB25 := Lib.hid (HB4.out.trans hb5)
    have HB5 := Lib.hid (HB2.out.trans ((HB4.out.trans hb5).mono HB2.out.size))
    have KR5 := Lib.hid (blkc KR2.out HB25.out)
    have KO5 := Lib.hid (blkc KO2.out HB25.out)
    obtain ⟨X, hX⟩ : ∃ X, X = w4.heap.size := ⟨_, rfl⟩
    rw [← hX] at hx5 ⊢
    have hX2 : w.heap.size + 1 + 1 < X := by omega
    clear hX CS HB4 HS4 HB25 hb5 hown4 hb4 hXs HRr KB2 KR2 KO2 x0 x1 x2 x6
    obtain ⟨rr, hrr⟩ : ∃ rr, rr = corStep cr os clock := ⟨_, rfl⟩
    obtain ⟨oo, hoo⟩ : ∃ oo, oo = corOrd cr os := ⟨_, rfl⟩
    have HL : Hid (rr.cs.length = cr.cs.length) := by
      have h1 := (coreB_iff.1 (corStep_ok clock HOK.out)).2.1
      have h2 := (coreB_iff.1 HOK.out).2.1
      rw [← hrr] at h1
      show _ = _
      omega
    rw [← hrr] at hx5 ho5 HG
    rw [← hoo] at HG ⊢
    clear hrr hoo
    obtain ⟨rcs, rat, rst⟩ := rr
    obtain ⟨op, oa, ob⟩ := oo
    simp only [Ord3.val] at hx5 ho5 HL ⊢
    go_upto_region 5 with (fail)
    obtain ⟨u, hu⟩ : ∃ u, u = w5.alloc (.cells #[.int .i64 op, .int .i64 oa, .int .i64 ob] 41) := ⟨_, rfl⟩
    obtain ⟨Z, hZ⟩ : ∃ Z, Z = w5.heap.size := ⟨_, rfl⟩
    have hXZ : X < Z := by have := (cell3 hx5).2.2.2.2.2.2; omega
    have KX : Hid (u.heap[X]? = some (.cells #[.slice A4 rcs.length c4, .int .i64 rat, .bool rst] 33 (0, 0))) := by rw [hu]; exact blkc hx5 (below1 _ _)
    have KZ : Hid (u.heap[Z]? = some (.cells #[.int .i64 op, .int .i64 oa, .int .i64 ob] 41 (0, 0))) := by rw [hu, hZ]; exact heap_alloc_new w5 _
    have HO : Hid (Own eInt 3 u w2.heap.size (.slice A4 rcs.length c4) rcs) := by rw [hu]; exact ho5.alloc _
    have HBu : Hid (Below w.heap.size w u) := by rw [hu]; exact bel_trans HB5.out (below1 _ _)
    have KR : Hid (u.heap[w.heap.size + 1]? = some (.cells #[.slice none 0 0, .int .i64 0, .bool false] 33 (0, 0))) := by rw [hu]; exact blkc KR5.out (below1 _ _)
    have KO : Hid (u.heap[w.heap.size + 1 + 1]? = some (.cells #[.int .i64 0, .int .i64 0, .int .i64 0] 41 (0, 0))) := by rw [hu]; exact blkc KO5.out (below1 _ _)
    rw [← hu, ← hZ]
    clear hu hZ hx5 ho5 KR5 KO5 HB5
    obtain ⟨m0, m1, m2, m3, m4, m5, m6⟩ := cell3 KX.out
    obtain ⟨n0, n1, n2, n3, n4, n5, n6⟩ := cell3 KZ.out
    obtain ⟨p0, p1, p2, p3, p4, p5, p6⟩ := cell3 KR.out
    obtain ⟨q0, q1, q2, q3, q4, q5, q6⟩ := cell3 KO.out
    have HF := fin6 HBu.out HO.out KR.out KO.out hs3 (.slice A4 rcs.length c4) (.int .i64 rat) (.bool rst) (.int .i64 op) (.int .i64 oa) (.int .i64 ob)
    have HFb := fin6b HBu.out HO.out KR.out KO.out hs3 (.slice A4 rcs.length c4) (.int .i64 rat) (.bool rst) (.int .i64 op) (.int .i64 oa) (.int .i64 ob)
    have G1 := gset3 (w := u) (g := w.heap.size + 1) (.slice A4 rcs.length c4) (.int .i64 rat) (.bool rst)
    have G2 := gset3 (w := u) (g := w.heap.size + 1 + 1) (.int .i64 op) (.int .i64 oa) (.int .i64 ob)
    obtain ⟨i0, i1, i2, _, _, _, _⟩ := cell3 (gblk G1 KZ.out (by simp; omega))
    obtain ⟨_, _, _, i3, i4, i5, _⟩ := cell3 (gblk G1 KO.out (by simp))
    obtain ⟨l0, l1, l2, _, _, _, _⟩ := cell3 (gblk G2 KX.out (by simp; omega))
    obtain ⟨_, _, _, l3, l4, l5, _⟩ := cell3 (gblk G2 KR.out (by simp))
    unfold set6 at HF
    unfold set6b at HFb
    have HFF := Lib.hid HF
    have HFG := Lib.hid HFb
    obtain ⟨f0, f1, f2, _, _, _, _⟩ := cell3 HFF.out.2.2.1
    obtain ⟨g0, g1, g2, _, _, _, _⟩ := cell3 HFF.out.2.2.2
    obtain ⟨f0', f1', f2', _, _, _, _⟩ := cell3 HFG.out.2.2.1
    obtain ⟨g0', g1', g2', _, _, _, _⟩ := cell3 HFG.out.2.2.2
    clear HF HFb G1 G2
    have hrc : rcs.length ≤ c4 := by have := HL.out; omega
    go_region
    all_goals (try go_wp2)
    all_goals first
      | exact bodyPost_ret (v := .tuple #[.agg #[.slice A4 rcs.length c4, .int .i64 rat, .bool rst], .agg #[.int .i64 op, .int .i64 oa, .int .i64 ob]]) (by simp [results, Try.results42, go_sem, f0, f1, f2, g0, g1, g2]) rfl (by rw [HG.out]; exact ⟨A4, c4, rfl, HFF.out.1.drew, hrc, below_drew HFF.out.2.1⟩)
      | exact bodyPost_ret (v := .tuple #[.agg #[.slice A4 rcs.length c4, .int .i64 rat, .bool rst], .agg #[.int .i64 op, .int .i64 oa, .int .i64 ob]]) (by simp [results, Try.results42, go_sem, f0', f1', f2', g0', g1', g2']) rfl (by rw [HG.out]; exact ⟨A4, c4, rfl, HFG.out.1.drew, hrc, below_drew HFG.out.2.1⟩)
end Go.Proofs.Ytiodpnhokjkjaaa
