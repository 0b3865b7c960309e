/- HealthStep of the reference, for every input that HealthRun gives it. -/
import Derived.Test.YtlkdngjpbohgaaaHec
namespace Go.Proofs.Ytlkdngjpbohgaaa
open Go.RowKit Go.Sort

set_option maxRecDepth 100000 in
set_option maxHeartbeats 1600000 in
theorem callSHealthStep (A : Option Addr) (c : Nat) (h : Hlt) (t : List Int) (f : Int) (w : World) (B : Nat) (hB : B ≤ w.heap.size) (hh : hOk h = true) (ht : tabOk t = true) (hf : fltOk f = true) (hr : Rd eInt w B A t) :
    Calls Try.prog 54 #[h.val, .slice A t.length c, .int .i64 f] w fun e w' => e = .returned (.tuple #[(hAfter h t f).1.val, .int .i64 (hAfter h t f).2]) ∧ Below w.heap.size w w' := by
  have hf' : inB f 0 3 = true := hf
  obtain ⟨f0, f3⟩ := inB_iff.1 hf'
  obtain ⟨n0, n3, nf⟩ := hOk_iff.1 hh
  have HL := Lib.hid (tabOk_iff.1 ht).1
  have hbd := hAct_bd ht f
  have htl : 3 ≤ t.length ∧ t.length ≤ 3 := by have := (tabOk_iff.1 ht).1; omega
  obtain ⟨fz, n⟩ := h
  simp only at n0 n3 nf
  have V1 : ∀ W, Hid (Calls Try.prog 20 #[.agg #[.bool fz, .int .i64 n]] W fun e w' => e = .returned (.bool true) ∧ Below W.heap.size W w') := fun W => by
    have := callSHealthValid ⟨fz, n⟩ W
    rw [hh] at this; exact this
  have V2 : ∀ W, Below w.heap.size w W → Hid (Calls Try.prog 21 #[.slice A t.length c] W fun e w' => e = .returned (.bool true) ∧ Below W.heap.size W w') := fun W hW => by
    have := callSHealthTable A c t W B (Nat.le_trans hB hW.size) (by omega) (hr.below (hW.mono hB))
    rw [ht] at this; exact this
  have HR := Lib.hid hr
  have KB : Hid (((w.alloc (.cells #[.bool fz, .int .i64 n] 32)).alloc (.cells #[.bool false, .int .i64 0] 32)).heap[w.heap.size]? = some (.cells #[.bool fz, .int .i64 n] 32 (0, 0))) := by
    show _ = _; rw [heap_alloc_old _ _ (by simp)]; exact heap_alloc_new w _
  have KR : Hid (((w.alloc (.cells #[.bool fz, .int .i64 n] 32)).alloc (.cells #[.bool false, .int .i64 0] 32)).heap[w.heap.size + 1]? = some (.cells #[.bool false, .int .i64 0] 32 (0, 0))) := by
    have := heap_alloc_new (w.alloc (.cells #[.bool fz, .int .i64 n] 32)) (.cells #[.bool false, .int .i64 0] 32)
    rw [World.size_alloc] at this; exact this
  clear hr hh ht hf
  go_enter Try.func54, Try.ntmps54
  go_wp2_with fail
  refine (V1 _).out.mono ?_
  rintro e w1 ⟨rfl, hb1⟩
  have KB1 := Lib.hid (blkc KB.out hb1)
  have KR1 := Lib.hid (blkc KR.out hb1)
  have HB1 := Lib.hid (bel_trans (below2 w _ _) hb1)
  clear hb1 KB KR
  go_wp2_with fail
  refine (V2 _ HB1.out).out.mono ?_
  rintro e w2 ⟨rfl, hb2⟩
  have KB2 := Lib.hid (blkc KB1.out hb2)
  have KR2 := Lib.hid (blkc KR1.out hb2)
  have HB2 := Lib.hid (bel_trans HB1.out hb2)
  clear hb2 KB1 KR1 V1 V2
  obtain ⟨k1, k2, k3, k4, k5⟩ := cell2 KB2.out
  obtain ⟨j1, j2, j3, j4, j5⟩ := cell2 KR2.out
  have fin : ∀ (W : World) (x y : Value), Below w.heap.size w W → Hid (Below w.heap.size w ((W.setCell ⟨w.heap.size + 1, 0, none⟩ x).setCell ⟨w.heap.size + 1, 1, none⟩ y)) := fun W x y hW => bset2 hW (by omega) x y
  by_cases e0 : f = 0
  · have E : Hid (hAfter ⟨fz, n⟩ t f = (⟨fz, n⟩, 0)) := by show _ = _; unfold hAfter; rw [if_pos (.inl e0)]
    subst e0
    obtain ⟨s0, s1⟩ := res2 KR2.out (.bool fz) (.int .i64 n)
    clear hbd htl nf
    go_wp2_with (go_at_call 53; refine (callL1In _ _ _ _).mono ?_; rintro e w' ⟨rfl, rfl⟩)
    refine bodyPost_ret (v := .tuple #[.agg #[.bool fz, .int .i64 n], .int .i64 0]) (by simp [results, Try.results54, go_sem, s0, s1]) rfl ⟨by rw [E.out], (fin _ _ _ HB2.out).out⟩
  · have d0 : (f == 0) = false := by rw [beq_eq_false_iff_ne]; exact e0
    cases fz
    · obtain ⟨m, hm⟩ : ∃ m : Nat, f - 1 = (m : Int) := ⟨(f - 1).toNat, by omega⟩
      have hm3 : m < t.length := by omega
      obtain ⟨b, off, rfl, hbB, h1⟩ := (HR.out.below (HB2.out.mono hB)).at1 rfl hm3 rfl
      have hbw : b < w.heap.size := Nat.lt_of_lt_of_le hbB hB
      have ea : hAct t f = t[m] := by unfold hAct; rw [hm, Int.toNat_natCast, List.getD_eq_getElem?_getD, List.getElem?_eq_getElem hm3]; rfl
      have hn2 : n < 3 := by rcases nf with nf | nf; cases nf; exact nf
      have EE : Hid (hAfter ⟨false, n⟩ t f = if t[m] = 1 then (if n + 1 = 3 then (⟨true, 3⟩, 2) else (⟨false, n + 1⟩, 1)) else if t[m] = 2 then (⟨true, n⟩, 2) else (⟨false, n⟩, 0)) := by
        show _ = _; unfold hAfter; rw [if_neg (by simp [e0]), ea]
      rw [ea] at hbd
      obtain ⟨x, hx⟩ : ∃ x, x = t[m] := ⟨_, rfl⟩
      rw [← hx] at h1 EE hbd
      have hi0 : (0 : Int) ≤ (m : Int) := by omega
      have hi1 : (m : Int) < (t.length : Int) := by omega
      have hx3 : x = 0 ∨ x = 1 ∨ x = 2 := by omega
      clear hx ea htl nf e0 hbd n3
      rcases hx3 with rfl | rfl | rfl
      · obtain ⟨s0, s1⟩ := res2 KR2.out (.bool false) (.int .i64 n)
        go_wp2_with (go_at_call 53; refine (callL1In _ _ _ _).mono ?_; rintro e w' ⟨rfl, rfl⟩)
        refine bodyPost_ret (v := .tuple #[.agg #[.bool false, .int .i64 n], .int .i64 0]) (by simp [results, Try.results54, go_sem, s0, s1]) rfl ⟨by rw [EE.out] <;> rfl, (fin _ _ _ HB2.out).out⟩
      · by_cases e3 : n + 1 = 3
        · obtain rfl : n = 2 := by omega
          clear e3
          have KB3 := Lib.hid (set2b (u := .int .i64 3) KB2.out)
          have KB4 := Lib.hid (set2a (u := .bool true) KB3.out)
          have KR4 := Lib.hid (blko (blko KR2.out (p := ⟨w.heap.size, 1, none⟩) (.int .i64 3) (by simp)) (p := ⟨w.heap.size, 0, none⟩) (.bool true) (by simp))
          obtain ⟨q1, q2, q3, q4, q5⟩ := cell2 KB3.out
          obtain ⟨r1, r2, r3, r4, r5⟩ := cell2 KB4.out
          obtain ⟨u1, u2, u3, u4, u5⟩ := cell2 KR4.out
          obtain ⟨s0, s1⟩ := res2 KR4.out (.bool true) (.int .i64 3)
          go_wp2_with (go_at_call 53; refine (callL1In _ _ _ _).mono ?_; rintro e w' ⟨rfl, rfl⟩)
          refine bodyPost_ret (v := .tuple #[.agg #[.bool true, .int .i64 3], .int .i64 2]) (by simp [results, Try.results54, go_sem, s0, s1]) rfl ⟨by rw [EE.out] <;> rfl, (fin _ _ _ ((HB2.out.setCell (p := ⟨w.heap.size, 1, none⟩) (Nat.le_refl _) _).setCell (p := ⟨w.heap.size, 0, none⟩) (Nat.le_refl _) _)).out⟩
        · have d3 : (n + 1 == 3) = false := by rw [beq_eq_false_iff_ne]; exact e3
          have KB3 := Lib.hid (set2b (u := .int .i64 (n + 1)) KB2.out)
          have KR4 := Lib.hid (blko KR2.out (p := ⟨w.heap.size, 1, none⟩) (.int .i64 (n + 1)) (by simp))
          obtain ⟨q1, q2, q3, q4, q5⟩ := cell2 KB3.out
          obtain ⟨u1, u2, u3, u4, u5⟩ := cell2 KR4.out
          obtain ⟨s0, s1⟩ := res2 KR4.out (.bool false) (.int .i64 (n + 1))
          go_wp2_with (go_at_call 53; refine (callL1In _ _ _ _).mono ?_; rintro e w' ⟨rfl, rfl⟩)
          refine bodyPost_ret (v := .tuple #[.agg #[.bool false, .int .i64 (n + 1)], .int .i64 1]) (by simp [results, Try.results54, go_sem, s0, s1]) rfl ⟨by rw [EE.out, if_pos True.intro, if_neg e3] <;> rfl, (fin _ _ _ (HB2.out.setCell (p := ⟨w.heap.size, 1, none⟩) (Nat.le_refl _) _)).out⟩
      · have KB4 := Lib.hid (set2a (u := .bool true) KB2.out)
        have KR4 := Lib.hid (blko KR2.out (p := ⟨w.heap.size, 0, none⟩) (.bool true) (by simp))
        obtain ⟨r1, r2, r3, r4, r5⟩ := cell2 KB4.out
        obtain ⟨u1, u2, u3, u4, u5⟩ := cell2 KR4.out
        obtain ⟨s0, s1⟩ := res2 KR4.out (.bool true) (.int .i64 n)
        go_wp2_with (go_at_call 53; refine (callL1In _ _ _ _).mono ?_; rintro e w' ⟨rfl, rfl⟩)
        refine bodyPost_ret (v := .tuple #[.agg #[.bool true, .int .i64 n], .int .i64 2]) (by simp [results, Try.results54, go_sem, s0, s1]) rfl ⟨by rw [EE.out] <;> rfl, (fin _ _ _ (HB2.out.setCell (p := ⟨w.heap.size, 0, none⟩) (Nat.le_refl _) _)).out⟩
    · have E : Hid (hAfter ⟨true, n⟩ t f = (⟨true, n⟩, 0)) := by show _ = _; unfold hAfter; rw [if_pos (.inr rfl)]
      obtain ⟨s0, s1⟩ := res2 KR2.out (.bool true) (.int .i64 n)
      clear hbd htl nf
      go_wp2_with (go_at_call 53; refine (callL1In _ _ _ _).mono ?_; rintro e w' ⟨rfl, rfl⟩)
      refine bodyPost_ret (v := .tuple #[.agg #[.bool true, .int .i64 n], .int .i64 0]) (by simp [results, Try.results54, go_sem, s0, s1]) rfl ⟨by rw [E.out], (fin _ _ _ HB2.out).out⟩
end Go.Proofs.Ytlkdngjpbohgaaa
