/- The walk of the law FnAuditSince: true for every input, and nothing that was there is written. -/
import Derived.Test.YtapkgncmjinedaaAdx
import Derived.Test.YtapkgncmjinedaaAus
import Derived.Test.YtapkgncmjinedaaStg
import Derived.Deep.RegionHeldLaw
namespace Go.Proofs.Ytapkgncmjinedaa
open Go.RowKit Go.Sort

set_option maxRecDepth 100000 in
set_option maxHeartbeats 3200000 in
theorem walkFnAuditSince (A : Option Addr) (c : Nat) (bs : List Int) (w : World) (hc : bs.length ≤ c) (hr : Rd eU8 w w.heap.size A bs) (hby : ∀ x ∈ bs, 0 ≤ x ∧ x ≤ 255) :
    Calls Try.prog 4 #[.slice A bs.length c] w fun e w' => e = .returned (.bool true) ∧ Below w.heap.size w w' := by
  by_cases hl : bs.length ≤ 1048576
  · have HC := Lib.hid (callDrawAuditSince A c bs w hc hl hr hby)
    clear hr hby
    go_enter Try.func4, Try.ntmps4
    go_wp2_with fail
    refine HC.out.mono ?_
    rintro e w1 ⟨A1, c1, key, es, sum, n, rfl, hl61, hc1, hn0, hn1, hra, hb1⟩
    have HB1 := Lib.hid (bel_trans hb1 (below1 w1 (.cells #[.int .i64 key, .slice A1 es.length c1, .int .i64 sum] 37)))
    have KX := Lib.hid (heap_alloc_new w1 (.cells #[.int .i64 key, .slice A1 es.length c1, .int .i64 sum] 37))
    have HA := Lib.hid (hra.alloc (.cells #[.int .i64 key, .slice A1 es.length c1, .int .i64 sum] 37))
    clear hra hb1 HC
    go_upto_region 4 with (fail)
    obtain ⟨u, hu⟩ : ∃ u, u = w1.alloc (.cells #[.int .i64 key, .slice A1 es.length c1, .int .i64 sum] 37) := ⟨_, rfl⟩
    obtain ⟨X, hX⟩ : ∃ X, X = w1.heap.size := ⟨_, rfl⟩
    rw [← hu] at HB1 KX HA ⊢
    rw [← hX] at KX ⊢
    clear hu hX
    have RI := Lib.hid (callAuditSince A1 c1 es key sum n u u.heap.size (Nat.le_refl _) hc1 (by omega) HA.out)
    have RS : Hid (∀ (W : World), Below u.heap.size u W → Calls Try.prog 24 #[.agg #[.int .i64 key, .slice A1 es.length c1, .int .i64 sum], .int .i64 n] W (SinOut W (auditSince key es sum n))) := fun W hW => callSAuditSince A1 c1 es key sum n W W.heap.size (Nat.le_refl _) hc1 (by omega) (HA.out.next hW)
    have HRB : Hid ((auditOk key es sum && inB n 0 es.length) = false → auditSince key es sum n = ([], -1)) := since_bad
    have HRG : Hid (∀ m : Nat, n = m → auditOk key es sum = true → inB n 0 es.length = true → auditSince key es sum n = (es.drop m, mixF key (es.take m))) := fun m e h h' => by
      subst e; exact since_good h h'
    have HLEN : Hid ((auditSince key es sum n).1.length ≤ 61) := by
      show _ ≤ _
      unfold auditSince
      split
      · show (es.drop _).length ≤ 61
        rw [List.length_drop]; omega
      · simp
    obtain ⟨r, hrr⟩ : ∃ r, r = auditSince key es sum n := ⟨_, rfl⟩
    rw [← hrr] at RI RS HRB HRG HLEN
    clear hrr
    obtain ⟨ds, sm⟩ := r
    have hl5r := HLEN.out
    obtain ⟨x0, x1, x2, _, _, _, x6⟩ := cell3 KX.out
    go_wp2_with fail
    refine RI.out.mono ?_
    rintro e w2 ⟨A3, c3, rfl, hown2, hc3, hb2⟩
    simp only at hown2 hc3 hl5r RS HRB HRG ⊢
    have HB2 := Lib.hid hb2
    have KX2 := Lib.hid (blkc KX.out hb2)
    have HD2 := Lib.hid hown2.rd
    clear hown2 hb2 x0 x1 x2 x6 RI KX
    obtain ⟨x0, x1, x2, _, _, _, x6⟩ := cell3 KX2.out
    go_wp2_with fail
    refine (RS.out w2 HB2.out).mono ?_
    rintro e w3 ⟨A4, c4, rfl, hown4, hc4, hb3⟩
    simp only at hown4 hc4 ⊢
    have HB3 := Lib.hid (bel_trans HB2.out hb3)
    have KX3 := Lib.hid (blkc KX2.out hb3)
    have HD3 := Lib.hid (HD2.out.next hb3)
    have SI := callSameInts A3 A4 c3 c4 ds ds w3 w3.heap.size (Nat.le_refl _) (by omega) (by omega) HD3.out hown4.rd
    rw [show decide (ds = ds) = true from decide_eq_true rfl] at SI
    have HSI := Lib.hid SI
    clear SI hown4 hb3 RS x0 x1 x2 x6 KX2 HD2
    go_wp2_with fail
    refine HSI.out.mono ?_
    rintro e w4 ⟨rfl, hb4⟩
    have HB4 := Lib.hid (bel_trans HB3.out hb4)
    have KX4 := Lib.hid (blkc KX3.out hb4)
    have HD4 := Lib.hid (HD3.out.next hb4)
    have HX4 := Lib.hid (HA.out.next HB4.out)
    have BW4 := Lib.hid (bel_trans HB1.out HB4.out)
    have hss : (sm != sm) = false := by simp
    clear hb4 HSI KX3 HD3 HB3
    go_upto_region 8 with (fail)
    clear hss
    by_cases hbad : (auditOk key es sum && inB n 0 es.length) = false
    · have h1 := HRB.out hbad
      simp only [Prod.mk.injEq] at h1
      obtain ⟨rfl, rfl⟩ := h1
      clear hbad HRB HRG
      go_wp2_with fail
      refine (callAlive _).mono ?_
      rintro e w5 ⟨rfl, hb5⟩
      go_wp2
      go_ret
      exact ⟨rfl, bel_trans BW4.out hb5⟩
    · have hgood := (Bool.not_eq_false _).mp hbad
      rw [Bool.and_eq_true] at hgood
      obtain ⟨q1, q2⟩ := hgood
      obtain ⟨m, rfl⟩ := Int.eq_ofNat_of_zero_le (inB_iff.1 q2).1
      have hml : m ≤ es.length := by have := (inB_iff.1 q2).2; omega
      have h1 := HRG.out m rfl q1 q2
      simp only [Prod.mk.injEq] at h1
      have hok := auditOk_iff.1 q1
      have hsin := mixF_in (es.take m) key hok.2.1
      have HMX : Hid (mixN sm ds = sum) := by
        show _ = _
        rw [h1.2, h1.1, mixN_in hsin, mixF_cut, hok.2.2]
      rw [← h1.2] at hsin
      have hsb := inB_iff.1 hsin
      obtain ⟨ts, hts⟩ : ∃ ts, ts = es.take m := ⟨_, rfl⟩
      have HEQ : Hid (ts ++ ds = es) := by show _ = _; rw [hts, h1.1, List.take_append_drop]
      have htl : ts.length = m := by rw [hts, List.length_take]; omega
      have HT4 : Hid (Rd eInt w4 w4.heap.size A1 ts) := by rw [hts]; exact HX4.out.take m
      have HTL := Lib.hid htl
      have hd1 : decide (sm < 0) = false := decide_eq_false (by omega)
      clear hts h1 hok hsin htl q1 q2 hbad HRB HRG
      have MX : Hid (∀ (W : World), Below w4.heap.size w4 W → Calls Try.prog 25 #[.int .i64 sm, .slice A3 ds.length c3] W fun e w' => e = .returned (.int .i64 sum) ∧ W = w') := fun W hW => by
        have := callMix A3 c3 ds sm W _ (by omega) (HD4.out.next hW)
        rw [HMX.out] at this
        exact this
      have hsum : (sum == sum) = true := by simp
      have i0 : (0 : Int) ≤ (m : Int) := by omega
      have i1 : (m : Int) ≤ (es.length : Int) := by omega
      have i2 : (m : Int) ≤ (c1 : Int) := by omega
      have hroom : Hid (([] : List Int).length + ts.length ≤ 1073741824) := by have := HTL.out; show 0 + _ ≤ _; omega
      have hroom2 : Hid (ts.length + ds.length ≤ 1073741824) := by have := HTL.out; show _ ≤ _; omega
      have Ba : Hid (Below w4.heap.size w4 (w4.alloc (.cells #[] 3)).drew) := (below1 _ _).drew
      have Bb : Hid (Below w4.heap.size w4 (w4.drew.alloc (.cells #[] 3))) := (below_drew (Below.refl _ w4)).alloc (Nat.le_refl _) _
      have RT : Hid (∀ W, Below w4.heap.size w4 W → Rd eInt W W.heap.size A1 ts) := fun W hW => HT4.out.next hW
      obtain ⟨x0, x1, x2, _, _, _, x6⟩ := cell3 KX4.out
      obtain ⟨xa0, xa1, xa2, _, _, _, _⟩ := cell3 (blkc KX4.out Ba.out)
      go_upto_region 10 with (fail)
      go_region_held3 (fun w' => w'.cell? ⟨X, 0, none⟩ = some (.int .i64 key) ∧ w'.cell? ⟨X, 1, none⟩ = some (.slice A1 es.length c1) ∧ w'.cell? ⟨X, 2, none⟩ = some (.int .i64 sum)) (first | exact ⟨x0, x1, x2⟩ | exact ⟨xa0, xa1, xa2⟩ | (refine ⟨?_, ?_, ?_⟩ <;> assumption) | assumption | go_keep)
        (first
          | (go_at_call 25; (with_reducible refine (MX.out w4.drew (Below.refl _ _).drew).mono ?_); rintro e w5 ⟨rfl, rfl⟩)
          | (refine step_app_w (w := w4.drew.alloc (.cells #[] 3)) (n := m) (c := c1) eiInt (by rfl) (.tmp 57) (.tmp 61) rfl w4.heap.size (xs := []) (Own.none_ (A := some ⟨w4.heap.size, 0, none⟩)) (RT.out _ Bb.out) HTL.out.symm (by simp [Act.eval]) (by simp [Act.eval]) hroom.out Bb.out.size ?_; intro v' w5 row ho5' hg5 hrow5; have ho5 : Own eInt 3 w5 w4.heap.size v' ts := ho5'; obtain ⟨A5, c5, hv5, hc5, _⟩ := ho5.form; subst hv5; have HB5 : Hid (Below w4.heap.size w4 w5) := Bb.out.trans (below_of_row hg5 (fun k hk => (hrow5 k hk).1) Bb.out.size); have HO5 := Lib.hid ho5; clear ho5 ho5' hg5 hrow5; obtain ⟨n0, n1, n2, _, _, _, _⟩ := cell3 (blkc KX4.out HB5.out))
          | (refine step_app_w (w := (w4.alloc (.cells #[] 3)).drew) (n := m) (c := c1) eiInt (by rfl) (.tmp 57) (.tmp 61) rfl w4.heap.size (xs := []) (Own.none_ (A := some ⟨w4.heap.size, 0, none⟩)) (RT.out _ Ba.out) HTL.out.symm (by simp [Act.eval]) (by simp [Act.eval]) hroom.out Ba.out.size ?_; intro v' w5 row ho5' hg5 hrow5; have ho5 : Own eInt 3 w5 w4.heap.size v' ts := ho5'; obtain ⟨A5, c5, hv5, hc5, _⟩ := ho5.form; subst hv5; have HB5 : Hid (Below w4.heap.size w4 w5) := Ba.out.trans (below_of_row hg5 (fun k hk => (hrow5 k hk).1) Ba.out.size); have HO5 := Lib.hid ho5; clear ho5 ho5' hg5 hrow5; obtain ⟨n0, n1, n2, _, _, _, _⟩ := cell3 (blkc KX4.out HB5.out))
          | (refine step_app_w (w := w5) (n := ds.length) (c := c3) eiInt (by rfl) (.tmp 62) (.tmp 63) rfl w4.heap.size (xs := ts) HO5.out (HD4.out.next HB5.out) rfl (by simp [Act.eval]) (by simp [Act.eval]) hroom2.out HB5.out.size ?_; intro v' w6 row ho6 hg6 hrow6; rw [HEQ.out] at ho6; obtain ⟨A6, c6, hv6, hc6, _⟩ := ho6.form; subst hv6; have HB6 : Hid (Below w4.heap.size w4 w6) := HB5.out.trans (below_of_row hg6 (fun k hk => (hrow6 k hk).1) HB5.out.size); have HR6 := Lib.hid ho6.rd; clear ho6 hg6 hrow6; obtain ⟨p0, p1, p2, _, _, _, _⟩ := cell3 (blkc KX4.out HB6.out))
          | (go_at_call 17; refine (callSameInts A6 A1 c6 c1 es es w6 w6.heap.size (Nat.le_refl _) (by omega) (by omega) HR6.out (HX4.out.next HB6.out)).mono ?_; rw [show decide (es = es) = true from decide_eq_true rfl]; rintro e w7 ⟨rfl, hb7⟩; have HB7 := Lib.hid (bel_trans HB6.out hb7); clear hb7; obtain ⟨q0, q1, q2, _, _, _, _⟩ := cell3 (blkc KX4.out HB7.out)))
      go_wp2_with fail
      go_ret
      exact ⟨rfl, bel_trans BW4.out HB7.out⟩
  · have hl' : 1048576 < bs.length := by omega
    clear hr hby hl
    go_enter Try.func4, Try.ntmps4
    go_wp2
    go_ret
    exact ⟨rfl, Below.refl _ _⟩
end Go.Proofs.Ytapkgncmjinedaa
