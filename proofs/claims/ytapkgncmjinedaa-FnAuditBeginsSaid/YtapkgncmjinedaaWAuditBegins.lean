/- The walk of the law FnAuditBegins: true for every input, and nothing that was there is written. -/
import Derived.Test.YtapkgncmjinedaaAdx
import Derived.Test.YtapkgncmjinedaaAdb
import Derived.Test.YtapkgncmjinedaaAbs
import Derived.BigQuiet
namespace Go.Proofs.Ytapkgncmjinedaa
open Go.RowKit Go.Sort

theorem begins_facts (k : Int) (es : List Int) (s k' : Int) (es' : List Int) (s' : Int) :
    (auditBegins k es s k' es' s' = true → auditBegins k' es' s' k es s = true → decide ((k, es, s) = (k', es', s')) = true) ∧ (auditBegins k es s k' es' s' = true → decide ((es'.length : Int) ≤ (es.length : Int)) = true) := by
  refine ⟨fun h h' => ?_, fun h => ?_⟩
  · obtain ⟨rfl, rfl, rfl⟩ := begins_both h h'
    simp
  · have := begins_len h
    exact decide_eq_true (by omega)

set_option maxRecDepth 100000 in
set_option maxHeartbeats 6400000 in
theorem walkFnAuditBegins (A : Option Addr) (c : Nat) (bs : List Int) (w : World) (hc : bs.length ≤ c) (hr : Rd eU8 w w.heap.size A bs) (hby : ∀ x ∈ bs, 0 ≤ x ∧ x ≤ 255) :
    Calls Try.prog 7 #[.slice A bs.length c] w fun e w' => e = .returned (.bool true) ∧ Below w.heap.size w w' := by
  by_cases hl : bs.length ≤ 1048576
  · have HC := Lib.hid (callDrawAuditBegins A c bs w hc hl hr hby)
    clear hr hby
    go_enter Try.func7, Try.ntmps7
    go_wp2_with fail
    refine HC.out.mono ?_
    rintro e w1 ⟨A1, c1, key, es, sum, A2, c2, key', es', sum', rfl, hl1, hl2, hc1, hc2, hra, hrb, hb1⟩
    have HB1 := Lib.hid (bel_trans hb1 (below2 w1 (.cells #[.int .i64 key, .slice A1 es.length c1, .int .i64 sum] 37) (.cells #[.int .i64 key', .slice A2 es'.length c2, .int .i64 sum'] 37)))
    have K0 := Lib.hid (alloc_at0 w1 (.cells #[.int .i64 key, .slice A1 es.length c1, .int .i64 sum] 37) (.cells #[.int .i64 key', .slice A2 es'.length c2, .int .i64 sum'] 37))
    have K1 := Lib.hid (alloc_at1 w1 (.cells #[.int .i64 key, .slice A1 es.length c1, .int .i64 sum] 37) (.cells #[.int .i64 key', .slice A2 es'.length c2, .int .i64 sum'] 37))
    have HA1 := Lib.hid ((hra.alloc (.cells #[.int .i64 key, .slice A1 es.length c1, .int .i64 sum] 37)).alloc (.cells #[.int .i64 key', .slice A2 es'.length c2, .int .i64 sum'] 37))
    have HA2 := Lib.hid ((hrb.alloc (.cells #[.int .i64 key, .slice A1 es.length c1, .int .i64 sum] 37)).alloc (.cells #[.int .i64 key', .slice A2 es'.length c2, .int .i64 sum'] 37))
    clear hra hrb hb1 HC
    go_upto_region 4 with (fail)
    obtain ⟨u, hu⟩ : ∃ u, u = (w1.alloc (.cells #[.int .i64 key, .slice A1 es.length c1, .int .i64 sum] 37)).alloc (.cells #[.int .i64 key', .slice A2 es'.length c2, .int .i64 sum'] 37) := ⟨_, rfl⟩
    obtain ⟨X, hX⟩ : ∃ X, X = w1.heap.size := ⟨_, rfl⟩
    obtain ⟨Y, hY⟩ : ∃ Y, Y = X + 1 := ⟨_, rfl⟩
    rw [← hu] at HB1 K0 K1 HA1 HA2 ⊢
    rw [← hX] at K0 K1 ⊢
    rw [← hY] at K1 ⊢
    clear hu hX hY
    have RI := Lib.hid (callAuditBegins A1 A2 c1 c2 key sum key' sum' es es' u u.heap.size (Nat.le_refl _) hc1 (by omega) (by omega) HA1.out HA2.out)
    have RS : Hid (∀ (W : World), Below u.heap.size u W → Calls Try.prog 36 #[.agg #[.int .i64 key, .slice A1 es.length c1, .int .i64 sum], .agg #[.int .i64 key', .slice A2 es'.length c2, .int .i64 sum']] W fun e w' => e = .returned (.bool (auditBegins key es sum key' es' sum')) ∧ Below W.heap.size W w') := fun W hW => callSAuditBegins A1 A2 c1 c2 key sum key' sum' es es' W W.heap.size (Nat.le_refl _) (by omega) (by omega) (HA1.out.next hW) (HA2.out.next hW)
    have F := Lib.hid (begins_facts key es sum key' es' sum')
    obtain ⟨x0, x1, x2, _, _, _, x6⟩ := cell3 K0.out
    obtain ⟨y0, y1, y2, _, _, _, y6⟩ := cell3 K1.out
    obtain ⟨ok, hok⟩ : ∃ ok, ok = auditBegins key es sum key' es' sum' := ⟨_, rfl⟩
    rw [← hok] at RI RS F
    clear hok
    go_wp2_with fail
    refine RI.out.mono ?_
    rintro e w2 ⟨rfl, hb2⟩
    have HB2 := Lib.hid hb2
    have K02 := Lib.hid (blkc K0.out hb2)
    have K12 := Lib.hid (blkc K1.out hb2)
    clear hb2 x0 x1 x2 x6 y0 y1 y2 y6 K0 K1 RI
    obtain ⟨x0, x1, x2, _, _, _, x6⟩ := cell3 K02.out
    obtain ⟨y0, y1, y2, _, _, _, y6⟩ := cell3 K12.out
    have hne : (ok != ok) = false := by cases ok <;> rfl
    go_wp2_with fail
    refine (RS.out w2 HB2.out).mono ?_
    rintro e w3 ⟨rfl, hb3⟩
    have HB3 := Lib.hid (bel_trans HB2.out hb3)
    have K03 := Lib.hid (blkc K02.out hb3)
    have K13 := Lib.hid (blkc K12.out hb3)
    have BW := Lib.hid (bel_trans HB1.out HB3.out)
    clear hb3 x0 x1 x2 x6 y0 y1 y2 y6 K02 K12 RS HB2
    have HA13 := Lib.hid (HA1.out.next HB3.out)
    have HA23 := Lib.hid (HA2.out.next HB3.out)
    go_upto_region 7 with (fail)
    clear hne HA1 HA2 HB3
    obtain ⟨x0, x1, x2, _, _, _, x6⟩ := cell3 K03.out
    obtain ⟨y0, y1, y2, _, _, _, y6⟩ := cell3 K13.out
    have C0 : QCall Try.prog 35 #[.agg #[.int .i64 key, .slice A1 es.length c1, .int .i64 sum], .agg #[.int .i64 key, .slice A1 es.length c1, .int .i64 sum]] w3 (.bool (auditOk key es sum)) := QCall.of fun W' hb => by
      have := callAuditBegins A1 A1 c1 c1 key sum key sum es es W' W'.heap.size (Nat.le_refl _) hc1 (by omega) (by omega) (HA13.out.next hb) (HA13.out.next hb)
      rw [begins_self] at this
      exact this
    have C1 : QCall Try.prog 37 #[.agg #[.int .i64 key, .slice A1 es.length c1, .int .i64 sum]] w3 (.bool (auditOk key es sum)) := QCall.of fun W' hb => callAuditValid A1 c1 es key sum W' W'.heap.size (Nat.le_refl _) (by omega) (HA13.out.next hb)
    have C2 : QCall Try.prog 35 #[.agg #[.int .i64 key', .slice A2 es'.length c2, .int .i64 sum'], .agg #[.int .i64 key, .slice A1 es.length c1, .int .i64 sum]] w3 (.bool (auditBegins key' es' sum' key es sum)) := QCall.of fun W' hb => callAuditBegins A2 A1 c2 c1 key' sum' key sum es' es W' W'.heap.size (Nat.le_refl _) hc2 (by omega) (by omega) (HA23.out.next hb) (HA13.out.next hb)
    have C3 : QCall Try.prog 29 #[.agg #[.int .i64 key, .slice A1 es.length c1, .int .i64 sum], .agg #[.int .i64 key', .slice A2 es'.length c2, .int .i64 sum']] w3 (.bool (decide ((key, es, sum) = (key', es', sum')))) := QCall.of fun W' hb => callSameAudit A1 A2 c1 c2 key sum key' sum' es es' W' (by omega) (by omega) (HA13.out.next hb) (HA23.out.next hb)
    have C4 : QCall Try.prog 19 #[] w3 (.bool true) := QCall.of fun W' hb => callAlive W'
    have k0 := cell_regrown x0
    have k1 := cell_regrown x1
    have k2 := cell_regrown x2
    have k3 := cell_regrown y0
    have k4 := cell_regrown y1
    have k5 := cell_regrown y2
    clear x0 x1 x2 x6 y0 y1 y2 y6 K03 K13 HA13 HA23
    obtain ⟨v, hv⟩ : ∃ v, v = auditOk key es sum := ⟨_, rfl⟩
    obtain ⟨ba, hba⟩ : ∃ ba, ba = auditBegins key' es' sum' key es sum := ⟨_, rfl⟩
    obtain ⟨sm, hsm⟩ : ∃ sm, sm = decide ((key, es, sum) = (key', es', sum')) := ⟨_, rfl⟩
    obtain ⟨le, hle⟩ : ∃ le, le = decide ((es'.length : Int) ≤ (es.length : Int)) := ⟨_, rfl⟩
    have hle' : decide (es'.length ≤ es.length) = le := by rw [hle]; exact decide_eq_decide.2 (by omega)
    rw [← hba, ← hsm, ← hle] at F
    rw [← hv] at C0 C1
    rw [← hba] at C2
    rw [← hsm] at C3
    obtain ⟨F1, F2⟩ := F.out
    have hvv : (v == v) = true := by cases v <;> rfl
    clear hv hba hsm F
    replace hle := hle.symm
    unfold QCall at C0 C1 C2 C3 C4
    cases ok <;> cases v <;> cases ba <;> cases sm <;> cases le
    all_goals first
      | (exact absurd (F1 rfl rfl) (by decide))
      | (exact absurd (F2 rfl) (by decide))
      | (clear F1 F2
         refine wp_region_quiet_below (by kernel_rfl) (by kernel_rfl) ?_
         repeat (first | go_big_quiet_step ((first | (go_at_call 35; with_reducible exact C0 _ _) | (go_at_call 35; with_reducible exact C2 _ _) | (go_at_call 37; with_reducible exact C1 _ _) | (go_at_call 29; with_reducible exact C3 _ _) | (go_at_call 19; with_reducible exact C4 _ _))) | quiet_step ((first | (go_at_call 35; with_reducible exact C0 _ _) | (go_at_call 35; with_reducible exact C2 _ _) | (go_at_call 37; with_reducible exact C1 _ _) | (go_at_call 29; with_reducible exact C3 _ _) | (go_at_call 19; with_reducible exact C4 _ _))))
         refine wpQuiet_nil ?_
         intro w4 hw4
         have HB5 := Lib.hid (below_of_regrown hw4)
         clear hw4
         go_wp2
         go_ret
         exact ⟨rfl, BW.out.trans (HB5.out.mono BW.out.size)⟩)
  · have hl' : 1048576 < bs.length := by omega
    clear hr hby hl
    go_enter Try.func7, Try.ntmps7
    go_wp2
    go_ret
    exact ⟨rfl, Below.refl _ _⟩
end Go.Proofs.Ytapkgncmjinedaa
