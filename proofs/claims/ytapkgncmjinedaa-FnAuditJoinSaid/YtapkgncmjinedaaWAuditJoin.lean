/- The walk of the law FnAuditJoin: true for every input, and nothing that was there is written. -/
import Derived.Test.YtapkgncmjinedaaAdx
import Derived.Deep.RegionHeld3
namespace Go.Proofs.Ytapkgncmjinedaa
open Go.RowKit Go.Sort

set_option maxRecDepth 100000 in
set_option maxHeartbeats 3200000 in
theorem walkFnAuditJoin (A : Option Addr) (c : Nat) (bs : List Int) (w : World) (hc : bs.length ≤ c) (hr : Rd eU8 w w.heap.size A bs) (hby : ∀ x ∈ bs, 0 ≤ x ∧ x ≤ 255) :
    Calls Try.prog 5 #[.slice A bs.length c] w fun e w' => e = .returned (.bool true) ∧ Below w.heap.size w w' := by
  by_cases hl : bs.length ≤ 1048576
  · have HC := Lib.hid (callDrawAppendAudit A c bs w hc hl hr hby)
    clear hr hby
    go_enter Try.func5, Try.ntmps5
    go_wp2_with fail
    refine HC.out.mono ?_
    rintro e w1 ⟨A1, c1, key, es, sum, n, rfl, hl61, hc1, hn0, hn1, hra, hb1⟩
    have HB1 := Lib.hid (bel_trans hb1 (below1 w1 (.cells #[.int .i64 key, .slice A1 es.length c1, .int .i64 sum] 37)))
    have KX := Lib.hid (heap_alloc_new w1 (.cells #[.int .i64 key, .slice A1 es.length c1, .int .i64 sum] 37))
    have HA := Lib.hid (hra.alloc (.cells #[.int .i64 key, .slice A1 es.length c1, .int .i64 sum] 37))
    clear hra hb1 HC
    go_upto_region 4 with (fail)
    obtain ⟨u, hu⟩ : ∃ u, u = w1.alloc (.cells #[.int .i64 key, .slice A1 es.length c1, .int .i64 sum] 37) := ⟨_, rfl⟩
    obtain ⟨X, hX⟩ : ∃ X, X = w1.heap.size := ⟨_, rfl⟩
    rw [← hu] at HB1 KX HA ⊢
    rw [← hX] at KX ⊢
    clear hu hX
    have RI : Hid (∀ (t : Int) (W : World), Below u.heap.size u W → Calls Try.prog 27 #[.agg #[.int .i64 key, .slice A1 es.length c1, .int .i64 sum], .int .i64 t] W (AppOut W (auditAdd key es sum t))) := fun t W hW => callAppendAudit A1 c1 es key sum t W W.heap.size (Nat.le_refl _) hc1 (by omega) (HA.out.next hW)
    have RS : Hid (∀ (W : World), Below u.heap.size u W → Calls Try.prog 28 #[.agg #[.int .i64 key, .slice A1 es.length c1, .int .i64 sum], .int .i64 n] W (AppOut W (auditAdd key es sum n))) := fun W hW => callSAppendAudit A1 c1 es key sum n W W.heap.size (Nat.le_refl _) (by omega) (HA.out.next hW)
    have SA : Hid (∀ (A A' : Option Addr) (c c' : Nat) (k s k' s' : Int) (xs ys : List Int) (W : World), xs.length ≤ 1048576 → ys.length ≤ 1048576 → Rd eInt W W.heap.size A xs → Rd eInt W W.heap.size A' ys → Calls Try.prog 29 #[.agg #[.int .i64 k, .slice A xs.length c, .int .i64 s], .agg #[.int .i64 k', .slice A' ys.length c', .int .i64 s']] W fun e w' => e = .returned (.bool (decide ((k, xs, s) = (k', ys, s')))) ∧ Below W.heap.size W w') := fun A A' c c' k s k' s' xs ys W h1 h2 h3 h4 => callSameAudit A A' c c' k s k' s' xs ys W h1 h2 h3 h4
    have HLEN : Hid ((auditAdd key es sum n).1.2.1.length ≤ 62) := by
      show _ ≤ _
      cases q : auditOk key es sum
      · rw [add_bad q]; simp
      · by_cases h : es.length = 60
        · rw [add_full q h]; show es.length ≤ 62; omega
        · rw [add_good q h]; simp; omega
    have HRB : Hid (auditOk key es sum = false → auditAdd key es sum n = ((0, [], 0), false)) := add_bad
    have HRF : Hid (auditOk key es sum = true → es.length = 60 → auditAdd key es sum n = ((key, es, sum), false)) := add_full
    have HRG : Hid (auditOk key es sum = true → es.length ≠ 60 → auditAdd key es sum n = ((key, es ++ [n], mixStep sum n), true)) := add_good
    have RI1 := RI.out n u (Below.refl _ _)
    obtain ⟨r, hrr⟩ : ∃ r, r = auditAdd key es sum n := ⟨_, rfl⟩
    rw [← hrr] at RS HLEN HRB HRF HRG RI1
    have HRI1 := Lib.hid RI1
    clear hrr RI1
    obtain ⟨x0, x1, x2, _, _, _, x6⟩ := cell3 KX.out
    go_wp2_with fail
    refine HRI1.out.mono ?_
    rintro e w2 ⟨A3, c3, rfl, hown2, hc3, hb2⟩
    have hl5r := HLEN.out
    obtain ⟨⟨rk, rs, rm⟩, ok⟩ := r
    simp only at hown2 hc3 hl5r RS HRB HRF HRG ⊢
    have HB2 := Lib.hid (bel_trans hb2 (below1 w2 (.cells #[.int .i64 rk, .slice A3 rs.length c3, .int .i64 rm] 37)))
    have KX2 := Lib.hid (blkc KX.out HB2.out)
    have KY := Lib.hid (heap_alloc_new w2 (.cells #[.int .i64 rk, .slice A3 rs.length c3, .int .i64 rm] 37))
    have HY := Lib.hid (hown2.rd.alloc (.cells #[.int .i64 rk, .slice A3 rs.length c3, .int .i64 rm] 37))
    go_upto_region 5 with (fail)
    obtain ⟨u2, hu2⟩ : ∃ u2, u2 = w2.alloc (.cells #[.int .i64 rk, .slice A3 rs.length c3, .int .i64 rm] 37) := ⟨_, rfl⟩
    obtain ⟨Y, hY⟩ : ∃ Y, Y = w2.heap.size := ⟨_, rfl⟩
    rw [← hu2] at HB2 KX2 KY HY ⊢
    rw [← hY] at KY ⊢
    clear hu2 hY hown2 hb2 x0 x1 x2 x6 HRI1 KX
    obtain ⟨x0, x1, x2, _, _, _, x6⟩ := cell3 KX2.out
    go_wp2_with fail
    refine (RS.out u2 HB2.out).mono ?_
    rintro e w3 ⟨A4, c4, rfl, hown4, hc4, hb4⟩
    simp only at hown4 hc4 ⊢
    have HB23 := Lib.hid (bel_trans hb4 (below1 w3 (.cells #[.int .i64 rk, .slice A4 rs.length c4, .int .i64 rm] 37)))
    have HB3 := Lib.hid (bel_trans HB2.out HB23.out)
    have KX3 := Lib.hid (blkc KX2.out HB23.out)
    have KY3 := Lib.hid (blkc KY.out HB23.out)
    have KP := Lib.hid (heap_alloc_new w3 (.cells #[.int .i64 rk, .slice A4 rs.length c4, .int .i64 rm] 37))
    have HP := Lib.hid (hown4.rd.alloc (.cells #[.int .i64 rk, .slice A4 rs.length c4, .int .i64 rm] 37))
    have HY3 := Lib.hid (HY.out.next HB23.out)
    go_upto_region 6 with (fail)
    obtain ⟨u3, hu3⟩ : ∃ u3, u3 = w3.alloc (.cells #[.int .i64 rk, .slice A4 rs.length c4, .int .i64 rm] 37) := ⟨_, rfl⟩
    obtain ⟨P, hP⟩ : ∃ P, P = w3.heap.size := ⟨_, rfl⟩
    rw [← hu3] at HB3 KX3 KY3 KP HP HY3 ⊢
    rw [← hP] at KP ⊢
    clear hu3 hP hown4 hb4 x0 x1 x2 x6 RS HB2 HB23 KX2 KY HY
    obtain ⟨x0, x1, x2, _, _, _, x6⟩ := cell3 KY3.out
    obtain ⟨y0, y1, y2, _, _, _, y6⟩ := cell3 KP.out
    have SA1 := SA.out A3 A4 c3 c4 rk rm rk rm rs rs u3 (by omega) (by omega) HY3.out HP.out
    rw [show decide ((rk, rs, rm) = (rk, rs, rm)) = true from decide_eq_true rfl] at SA1
    have HSA1 := Lib.hid SA1
    clear SA1
    go_wp2_with fail
    refine HSA1.out.mono ?_
    rintro e w4 ⟨rfl, hb4⟩
    have HB4 := Lib.hid (bel_trans HB3.out hb4)
    have KX4 := Lib.hid (blkc KX3.out hb4)
    have KY4 := Lib.hid (blkc KY3.out hb4)
    have HY4 := Lib.hid (HY3.out.next hb4)
    clear hb4 x0 x1 x2 x6 y0 y1 y2 y6 KX3 KY3 KP HP HY3 HB3 HSA1
    have hok2 : (ok != ok) = false := by simp
    go_upto_region 8 with (fail)
    obtain ⟨x0, x1, x2, _, _, _, x6⟩ := cell3 KX4.out
    obtain ⟨y0, y1, y2, _, _, _, y6⟩ := cell3 KY4.out
    have BW4 := Lib.hid (bel_trans HB1.out HB4.out)
    have HX4 := Lib.hid (HA.out.next HB4.out)
    have HOKS : Hid (ok = true → auditOk key es sum = true ∧ es.length ≠ 60 ∧ rk = key ∧ rs = es ++ [n] ∧ rm = mixStep sum n) := fun h => by
      subst h
      cases q : auditOk key es sum
      · have h1 := HRB.out q
        simp at h1
      · by_cases h : es.length = 60
        · have h1 := HRF.out q h
          simp at h1
        · have h1 := HRG.out q h
          simp only [Prod.mk.injEq] at h1
          exact ⟨rfl, h, h1.1.1, h1.1.2.1, h1.1.2.2⟩
    have HNO : Hid (ok = false → (rk = 0 ∧ rs = [] ∧ rm = 0) ∨ (rk = key ∧ rs = es ∧ rm = sum)) := fun h => by
      subst h
      cases q : auditOk key es sum
      · have h1 := HRB.out q
        simp only [Prod.mk.injEq] at h1
        exact .inl ⟨h1.1.1, h1.1.2.1, h1.1.2.2⟩
      · by_cases h : es.length = 60
        · have h1 := HRF.out q h
          simp only [Prod.mk.injEq] at h1
          exact .inr ⟨h1.1.1, h1.1.2.1, h1.1.2.2⟩
        · have h1 := HRG.out q h
          simp at h1
    clear HRB HRF HRG HLEN
    cases ok
    · go_wp2_with fail
      refine (callAlive _).mono ?_
      rintro e w8 ⟨rfl, hb8⟩
      go_wp2
      go_ret
      exact ⟨rfl, bel_trans BW4.out hb8⟩
    · obtain ⟨hok, hl60, hrk, hrs, hrm⟩ := HOKS.out rfl
      have HSUM := Lib.hid (auditOk_sum hok)
      have HKEY := Lib.hid (auditOk_iff.1 hok).2.1
      have HM1 : Hid (mixN rk rs = rm) := by
        have h1 := (auditOk_iff.1 hok).2.2
        show _ = _
        rw [hrk, mixN_in HKEY.out, hrs, mixF_snoc, hrm, ← h1]
      have HM2 : Hid (mixN sum [n] = rm) := by
        show _ = _
        rw [mixN_in HSUM.out, mixF_one, hrm]
      clear hok hl60 hrk hrs hrm HOKS HNO
      have MA : Hid (∀ (W : World), Below w4.heap.size w4 W → Calls Try.prog 25 #[.int .i64 rk, .slice A3 rs.length c3] W fun e w' => e = .returned (.int .i64 rm) ∧ W = w') := fun W hW => by
        have := callMix A3 c3 rs rk W _ (by omega) (HY4.out.next hW)
        rw [HM1.out] at this
        exact this
      have MB : Hid (∀ (W : World) (b : Nat), W.heap[b]? = some (.cells #[.int .i64 n] 3 (0, 0)) → Calls Try.prog 25 #[.int .i64 sum, .slice (some ⟨b, 0, none⟩) 1 1] W fun e w' => e = .returned (.int .i64 rm) ∧ W = w') := fun W b hb => by
        have := callMix (some ⟨b, 0, none⟩) 1 [n] sum W _ (by simp) (rd_blk (E := eInt) (xs := [n]) hb rfl)
        rw [HM2.out] at this
        exact this
      have HN1 : Hid ((w4.alloc (.cells #[.int .i64 n] 3)).drew.heap[w4.heap.size]? = some (.cells #[.int .i64 n] 3 (0, 0))) := heap_alloc_new w4 _
      have HN2 : Hid ((w4.drew.alloc (.cells #[.int .i64 n] 3)).heap[w4.heap.size]? = some (.cells #[.int .i64 n] 3 (0, 0))) := heap_alloc_new w4.drew _
      have hmm : (rm == rm) = true := by simp
      obtain ⟨xz0, xz1, xz2, _, _, _, _⟩ := cell3 (blkc KX4.out (below1 w4 (.cells #[.int .i64 n] 3)))
      obtain ⟨yz0, yz1, yz2, _, _, _, _⟩ := cell3 (blkc KY4.out (below1 w4 (.cells #[.int .i64 n] 3)))
      go_upto_region 10 with (fail)
      go_region_held3 (fun w' => w'.cell? ⟨X, 0, none⟩ = some (.int .i64 key) ∧ w'.cell? ⟨X, 1, none⟩ = some (.slice A1 es.length c1) ∧ w'.cell? ⟨X, 2, none⟩ = some (.int .i64 sum) ∧ w'.cell? ⟨Y, 0, none⟩ = some (.int .i64 rk) ∧ w'.cell? ⟨Y, 1, none⟩ = some (.slice A3 rs.length c3) ∧ w'.cell? ⟨Y, 2, none⟩ = some (.int .i64 rm)) (first | exact ⟨x0, x1, x2, y0, y1, y2⟩ | exact ⟨xz0, xz1, xz2, yz0, yz1, yz2⟩ | (refine ⟨?_, ?_, ?_, ?_, ?_, ?_⟩ <;> assumption) | assumption | go_keep)
        (first
          | (go_at_call 25; (with_reducible refine (MA.out w4.drew (Below.refl _ _).drew).mono ?_); rintro e w5 ⟨rfl, rfl⟩)
          | (go_at_call 25; (with_reducible refine (MB.out _ _ HN1.out).mono ?_); rintro e w5 ⟨rfl, rfl⟩)
          | (go_at_call 25; (with_reducible refine (MB.out _ _ HN2.out).mono ?_); rintro e w5 ⟨rfl, rfl⟩))
      go_wp2_with fail
      go_ret
      exact ⟨rfl, bel_trans BW4.out (below1 w4 (.cells #[.int .i64 n] 3)).drew⟩
  · have hl' : 1048576 < bs.length := by omega
    clear hr hby hl
    go_enter Try.func5, Try.ntmps5
    go_wp2
    go_ret
    exact ⟨rfl, Below.refl _ _⟩
end Go.Proofs.Ytapkgncmjinedaa
