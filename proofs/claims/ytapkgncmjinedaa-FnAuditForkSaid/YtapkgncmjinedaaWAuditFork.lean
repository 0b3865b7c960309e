/- The walk of the law FnAuditFork: true for every input, and nothing that was there is written. -/
import Derived.Test.YtapkgncmjinedaaAdx
import Derived.Test.YtapkgncmjinedaaAbg
namespace Go.Proofs.Ytapkgncmjinedaa
open Go.RowKit Go.Sort

set_option maxRecDepth 100000 in
set_option maxHeartbeats 3200000 in
theorem walkFnAuditFork (A : Option Addr) (c : Nat) (bs : List Int) (w : World) (hc : bs.length ≤ c) (hr : Rd eU8 w w.heap.size A bs) (hby : ∀ x ∈ bs, 0 ≤ x ∧ x ≤ 255) :
    Calls Try.prog 9 #[.slice A bs.length c] w fun e w' => e = .returned (.bool true) ∧ Below w.heap.size w w' := by
  by_cases hl : bs.length ≤ 1048576
  · have HC := Lib.hid (callDrawAppendAudit A c bs w hc hl hr hby)
    clear hr hby
    go_enter Try.func9, Try.ntmps9
    go_wp2_with fail
    refine HC.out.mono ?_
    rintro e w1 ⟨A1, c1, key, es, sum, n, rfl, hl61, hc1, hn0, hn1, hra, hb1⟩
    have HB1 := Lib.hid (bel_trans hb1 (below1 w1 (.cells #[.int .i64 key, .slice A1 es.length c1, .int .i64 sum] 37)))
    have KX := Lib.hid (heap_alloc_new w1 (.cells #[.int .i64 key, .slice A1 es.length c1, .int .i64 sum] 37))
    have HA := Lib.hid (hra.alloc (.cells #[.int .i64 key, .slice A1 es.length c1, .int .i64 sum] 37))
    clear hra hb1 HC
    go_upto_region 4 with (fail)
    obtain ⟨u, hu⟩ : ∃ u, u = w1.alloc (.cells #[.int .i64 key, .slice A1 es.length c1, .int .i64 sum] 37) := ⟨_, rfl⟩
    obtain ⟨X, hX⟩ : ∃ X, X = w1.heap.size := ⟨_, rfl⟩
    rw [← hu] at HB1 KX HA ⊢
    rw [← hX] at KX ⊢
    clear hu hX
    have RI : Hid (∀ (t : Int) (W : World), Below u.heap.size u W → Calls Try.prog 27 #[.agg #[.int .i64 key, .slice A1 es.length c1, .int .i64 sum], .int .i64 t] W (AppOut W (auditAdd key es sum t))) := fun t W hW => callAppendAudit A1 c1 es key sum t W W.heap.size (Nat.le_refl _) hc1 (by omega) (HA.out.next hW)
    have RS : Hid (∀ (W : World), Below u.heap.size u W → Calls Try.prog 28 #[.agg #[.int .i64 key, .slice A1 es.length c1, .int .i64 sum], .int .i64 n] W (AppOut W (auditAdd key es sum n))) := fun W hW => callSAppendAudit A1 c1 es key sum n W W.heap.size (Nat.le_refl _) (by omega) (HA.out.next hW)
    have SA : Hid (∀ (A A' : Option Addr) (c c' : Nat) (k s k' s' : Int) (xs ys : List Int) (W : World), xs.length ≤ 1048576 → ys.length ≤ 1048576 → Rd eInt W W.heap.size A xs → Rd eInt W W.heap.size A' ys → Calls Try.prog 29 #[.agg #[.int .i64 k, .slice A xs.length c, .int .i64 s], .agg #[.int .i64 k', .slice A' ys.length c', .int .i64 s']] W fun e w' => e = .returned (.bool (decide ((k, xs, s) = (k', ys, s')))) ∧ Below W.heap.size W w') := fun A A' c c' k s k' s' xs ys W h1 h2 h3 h4 => callSameAudit A A' c c' k s k' s' xs ys W h1 h2 h3 h4
    have HLEN : Hid ((auditAdd key es sum n).1.2.1.length ≤ 62) := by
      show _ ≤ _
      cases q : auditOk key es sum
      · rw [add_bad q]; simp
      · by_cases h : es.length = 60
        · rw [add_full q h]; show es.length ≤ 62; omega
        · rw [add_good q h]; simp; omega
    have HRB : Hid (auditOk key es sum = false → auditAdd key es sum n = ((0, [], 0), false)) := add_bad
    have HRF : Hid (auditOk key es sum = true → es.length = 60 → auditAdd key es sum n = ((key, es, sum), false)) := add_full
    have HRG : Hid (auditOk key es sum = true → es.length ≠ 60 → auditAdd key es sum n = ((key, es ++ [n], mixStep sum n), true)) := add_good
    have RI1 := RI.out n u (Below.refl _ _)
    obtain ⟨r, hrr⟩ : ∃ r, r = auditAdd key es sum n := ⟨_, rfl⟩
    rw [← hrr] at RS HLEN HRB HRF HRG RI1
    have HRI1 := Lib.hid RI1
    clear hrr RI1
    obtain ⟨x0, x1, x2, _, _, _, x6⟩ := cell3 KX.out
    go_wp2_with fail
    refine HRI1.out.mono ?_
    rintro e w2 ⟨A3, c3, rfl, hown2, hc3, hb2⟩
    have hl5r := HLEN.out
    obtain ⟨⟨rk, rs, rm⟩, ok⟩ := r
    simp only at hown2 hc3 hl5r RS HRB HRF HRG ⊢
    have HB2 := Lib.hid (bel_trans hb2 (below1 w2 (.cells #[.int .i64 rk, .slice A3 rs.length c3, .int .i64 rm] 37)))
    have KX2 := Lib.hid (blkc KX.out HB2.out)
    have KY := Lib.hid (heap_alloc_new w2 (.cells #[.int .i64 rk, .slice A3 rs.length c3, .int .i64 rm] 37))
    have HY := Lib.hid (hown2.rd.alloc (.cells #[.int .i64 rk, .slice A3 rs.length c3, .int .i64 rm] 37))
    go_upto_region 5 with (fail)
    obtain ⟨u2, hu2⟩ : ∃ u2, u2 = w2.alloc (.cells #[.int .i64 rk, .slice A3 rs.length c3, .int .i64 rm] 37) := ⟨_, rfl⟩
    obtain ⟨Y, hY⟩ : ∃ Y, Y = w2.heap.size := ⟨_, rfl⟩
    rw [← hu2] at HB2 KX2 KY HY ⊢
    rw [← hY] at KY ⊢
    clear hu2 hY hown2 hb2 x0 x1 x2 x6 HRI1 KX
    obtain ⟨x0, x1, x2, _, _, _, x6⟩ := cell3 KX2.out
    go_wp2_with fail
    refine (RS.out u2 HB2.out).mono ?_
    rintro e w3 ⟨A4, c4, rfl, hown4, hc4, hb4⟩
    simp only at hown4 hc4 ⊢
    have HB23 := Lib.hid (bel_trans hb4 (below1 w3 (.cells #[.int .i64 rk, .slice A4 rs.length c4, .int .i64 rm] 37)))
    have HB3 := Lib.hid (bel_trans HB2.out HB23.out)
    have KX3 := Lib.hid (blkc KX2.out HB23.out)
    have KY3 := Lib.hid (blkc KY.out HB23.out)
    have KP := Lib.hid (heap_alloc_new w3 (.cells #[.int .i64 rk, .slice A4 rs.length c4, .int .i64 rm] 37))
    have HP := Lib.hid (hown4.rd.alloc (.cells #[.int .i64 rk, .slice A4 rs.length c4, .int .i64 rm] 37))
    have HY3 := Lib.hid (HY.out.next HB23.out)
    go_upto_region 6 with (fail)
    obtain ⟨u3, hu3⟩ : ∃ u3, u3 = w3.alloc (.cells #[.int .i64 rk, .slice A4 rs.length c4, .int .i64 rm] 37) := ⟨_, rfl⟩
    obtain ⟨P, hP⟩ : ∃ P, P = w3.heap.size := ⟨_, rfl⟩
    rw [← hu3] at HB3 KX3 KY3 KP HP HY3 ⊢
    rw [← hP] at KP ⊢
    clear hu3 hP hown4 hb4 x0 x1 x2 x6 RS HB2 HB23 KX2 KY HY
    obtain ⟨x0, x1, x2, _, _, _, x6⟩ := cell3 KY3.out
    obtain ⟨y0, y1, y2, _, _, _, y6⟩ := cell3 KP.out
    have SA1 := SA.out A3 A4 c3 c4 rk rm rk rm rs rs u3 (by omega) (by omega) HY3.out HP.out
    rw [show decide ((rk, rs, rm) = (rk, rs, rm)) = true from decide_eq_true rfl] at SA1
    have HSA1 := Lib.hid SA1
    clear SA1
    go_wp2_with fail
    refine HSA1.out.mono ?_
    rintro e w4 ⟨rfl, hb4⟩
    have HB4 := Lib.hid (bel_trans HB3.out hb4)
    have KX4 := Lib.hid (blkc KX3.out hb4)
    have KY4 := Lib.hid (blkc KY3.out hb4)
    have HY4 := Lib.hid (HY3.out.next hb4)
    clear hb4 x0 x1 x2 x6 y0 y1 y2 y6 KX3 KY3 KP HP HY3 HB3 HSA1
    have hok2 : (ok != ok) = false := by simp
    go_upto_region 8 with (fail)
    obtain ⟨x0, x1, x2, _, _, _, x6⟩ := cell3 KX4.out
    obtain ⟨y0, y1, y2, _, _, _, y6⟩ := cell3 KY4.out
    have BW4 := Lib.hid (bel_trans HB1.out HB4.out)
    have HX4 := Lib.hid (HA.out.next HB4.out)
    have HOKS : Hid (ok = true → auditOk key es sum = true ∧ es.length ≠ 60 ∧ rk = key ∧ rs = es ++ [n] ∧ rm = mixStep sum n) := fun h => by
      subst h
      cases q : auditOk key es sum
      · have h1 := HRB.out q
        simp at h1
      · by_cases h : es.length = 60
        · have h1 := HRF.out q h
          simp at h1
        · have h1 := HRG.out q h
          simp only [Prod.mk.injEq] at h1
          exact ⟨rfl, h, h1.1.1, h1.1.2.1, h1.1.2.2⟩
    have HNO : Hid (ok = false → (rk = 0 ∧ rs = [] ∧ rm = 0) ∨ (rk = key ∧ rs = es ∧ rm = sum)) := fun h => by
      subst h
      cases q : auditOk key es sum
      · have h1 := HRB.out q
        simp only [Prod.mk.injEq] at h1
        exact .inl ⟨h1.1.1, h1.1.2.1, h1.1.2.2⟩
      · by_cases h : es.length = 60
        · have h1 := HRF.out q h
          simp only [Prod.mk.injEq] at h1
          exact .inr ⟨h1.1.1, h1.1.2.1, h1.1.2.2⟩
        · have h1 := HRG.out q h
          simp at h1
    clear HRB HRF HRG HLEN
    cases ok
    · go_wp2_with fail
      refine (callAlive _).mono ?_
      rintro e w8 ⟨rfl, hb8⟩
      go_wp2
      go_ret
      exact ⟨rfl, bel_trans BW4.out hb8⟩
    · obtain ⟨hok, hl60, hrk, hrs, hrm⟩ := HOKS.out rfl
      obtain ⟨e2, he2⟩ : ∃ e2, e2 = bits BinOp.xor IntKind.i64 n 1 := ⟨_, rfl⟩
      have he3 : e2 = n + 1 ∨ e2 = n - 1 := by rw [he2]; exact xor_one hn0 hn1
      obtain ⟨zs, hzs⟩ : ∃ zs, zs = es ++ [e2] := ⟨_, rfl⟩
      obtain ⟨zm, hzm⟩ : ∃ zm, zm = mixStep sum e2 := ⟨_, rfl⟩
      have RZ := RI.out e2 w4 HB4.out
      rw [add_good hok hl60, ← hzs, ← hzm] at RZ
      have HRZ := Lib.hid RZ
      have hzl : Hid (zs.length = es.length + 1) := by show _ = _; rw [hzs]; simp
      have HZS := Lib.hid hzs
      clear RZ hzs
      have hne : n ≠ e2 := by omega
      have HF1 : Hid (auditBegins rk rs rm key zs zm = false) := by
        show _ = false
        rw [hrk, hrs, HZS.out]; exact begins_fork hne
      have HF2 : Hid (auditBegins key zs zm rk rs rm = false) := by
        show _ = false
        rw [hrk, hrs, HZS.out]; exact begins_fork (fun e => hne e.symm)
      have HF3 : Hid (auditBegins key zs zm key es sum = true) := by
        show _ = true
        rw [HZS.out, hzm]; exact begins_snoc hok hl60
      have HZM : Hid ((rm != zm) = true) := by
        show _ = true
        rw [bne_iff_ne, hrm, hzm]
        exact mixStep_ne (n := sum) (x := n) (y := e2) (by omega)
      clear hok hl60 hrk hrs hrm HOKS HNO hzm he3 hne
      go_wp2_with fail
      rw [← he2]
      clear he2
      refine HRZ.out.mono ?_
      rintro e w5 ⟨A5, c5, rfl, hown5, hc5, hb5⟩
      simp only at hown5 hc5 ⊢
      have HB5 := Lib.hid (bel_trans hb5 (below1 w5 (.cells #[.int .i64 key, .slice A5 zs.length c5, .int .i64 zm] 37)))
      have KZ := Lib.hid (heap_alloc_new w5 (.cells #[.int .i64 key, .slice A5 zs.length c5, .int .i64 zm] 37))
      have HZ := Lib.hid (hown5.rd.alloc (.cells #[.int .i64 key, .slice A5 zs.length c5, .int .i64 zm] 37))
      go_upto_region 11 with (fail)
      obtain ⟨u5, hu5⟩ : ∃ u5, u5 = w5.alloc (.cells #[.int .i64 key, .slice A5 zs.length c5, .int .i64 zm] 37) := ⟨_, rfl⟩
      obtain ⟨Z, hZ⟩ : ∃ Z, Z = w5.heap.size := ⟨_, rfl⟩
      rw [← hu5] at HB5 KZ HZ ⊢
      rw [← hZ] at KZ ⊢
      clear hu5 hZ hown5 hb5 HRZ x0 x1 x2 x6 y0 y1 y2 y6
      obtain ⟨x0, x1, x2, _, _, _, x6⟩ := cell3 (blkc KX4.out HB5.out)
      obtain ⟨y0, y1, y2, _, _, _, y6⟩ := cell3 (blkc KY4.out HB5.out)
      obtain ⟨z0, z1, z2, _, _, _, z6⟩ := cell3 KZ.out
      have hzl2 : zs.length ≤ 62 := by have := hzl.out; omega
      have BG : Hid (∀ (A A' : Option Addr) (c c' : Nat) (k s k' s' : Int) (xs ys : List Int) (W : World), xs.length ≤ c → xs.length ≤ 1048576 → ys.length ≤ 1048576 → Rd eInt W W.heap.size A xs → Rd eInt W W.heap.size A' ys → Calls Try.prog 35 #[.agg #[.int .i64 k, .slice A xs.length c, .int .i64 s], .agg #[.int .i64 k', .slice A' ys.length c', .int .i64 s']] W fun e w' => e = .returned (.bool (auditBegins k xs s k' ys s')) ∧ Below W.heap.size W w') := fun A A' c c' k s k' s' xs ys W h0 h1 h2 h3 h4 => callAuditBegins A A' c c' k s k' s' xs ys W W.heap.size (Nat.le_refl _) h0 h1 h2 h3 h4
      have HBZ := Lib.hid (Below.refl u5.heap.size u5)
      have C1 := BG.out A3 A5 c3 c5 rk rm key zm rs zs u5 hc3 (by omega) (by omega) (HY4.out.next HB5.out) HZ.out
      rw [HF1.out] at C1
      have HC1 := Lib.hid C1
      clear C1
      go_wp2_with fail
      refine HC1.out.mono ?_
      rintro e w6 ⟨rfl, hb6⟩
      have HB56 := Lib.hid hb6
      have HB6 := Lib.hid (bel_trans HB5.out hb6)
      clear hb6 HC1 x0 x1 x2 x6 y0 y1 y2 y6 z0 z1 z2 z6
      obtain ⟨y0, y1, y2, _, _, _, y6⟩ := cell3 (blkc KY4.out HB6.out)
      obtain ⟨z0, z1, z2, _, _, _, z6⟩ := cell3 (blkc KZ.out HB56.out)
      have C2 := BG.out A5 A3 c5 c3 key zm rk rm zs rs w6 hc5 (by omega) (by omega) (HZ.out.next HB56.out) (HY4.out.next HB6.out)
      rw [HF2.out] at C2
      have HC2 := Lib.hid C2
      clear C2
      go_wp2_with fail
      refine HC2.out.mono ?_
      rintro e w7 ⟨rfl, hb7⟩
      have HB57 := Lib.hid (bel_trans HB56.out hb7)
      have HB7 := Lib.hid (bel_trans HB6.out hb7)
      clear hb7 HC2 y0 y1 y2 y6 z0 z1 z2 z6
      obtain ⟨x0, x1, x2, _, _, _, x6⟩ := cell3 (blkc KX4.out HB7.out)
      obtain ⟨y0, y1, y2, _, _, _, y6⟩ := cell3 (blkc KY4.out HB7.out)
      obtain ⟨z0, z1, z2, _, _, _, z6⟩ := cell3 (blkc KZ.out HB57.out)
      have hzr := HZM.out
      have C3 := BG.out A5 A1 c5 c1 key zm key sum zs es w7 hc5 (by omega) (by omega) (HZ.out.next HB57.out) (HX4.out.next HB7.out)
      rw [HF3.out] at C3
      have HC3 := Lib.hid C3
      clear C3
      go_wp2_with fail
      refine HC3.out.mono ?_
      rintro e w8 ⟨rfl, hb8⟩
      go_wp2_with fail
      go_ret
      exact ⟨rfl, bel_trans BW4.out (bel_trans HB7.out hb8)⟩
  · have hl' : 1048576 < bs.length := by omega
    clear hr hby hl
    go_enter Try.func9, Try.ntmps9
    go_wp2
    go_ret
    exact ⟨rfl, Below.refl _ _⟩
end Go.Proofs.Ytapkgncmjinedaa
