/- The end of a frame: Modes.end of the program, for every input. -/
import Derived.Test.YtapkgncmjinedaaMdm
namespace Go.Proofs.Ytapkgncmjinedaa
open Go.RowKit Go.Sort
def endNow (now next : Int) : Int := if 0 ≤ next then next else now
def endNext (next : Int) : Int := if 0 ≤ next then -1 else next
set_option maxRecDepth 100000 in
set_option maxHeartbeats 1600000 in
theorem callEnd (A : Option Addr) (n c : Nat) (now next : Int) (w : World) :
    Calls Try.prog 57 #[.agg #[.slice A n c, .int .i64 now, .int .i64 next]] w fun e w' => e = .returned (.agg #[.slice A n c, .int .i64 (endNow now next), .int .i64 (endNext next)]) ∧ Below w.heap.size w w' := by
  have HV := Lib.hid (below2 w (.cells #[.slice A n c, .int .i64 now, .int .i64 next] 25) (.cells #[.slice none 0 0, .int .i64 0, .int .i64 0] 25))
  have K0 := Lib.hid (alloc_at0 w (.cells #[.slice A n c, .int .i64 now, .int .i64 next] 25) (.cells #[.slice none 0 0, .int .i64 0, .int .i64 0] 25))
  have K1 := Lib.hid (alloc_at1 w (.cells #[.slice A n c, .int .i64 now, .int .i64 next] 25) (.cells #[.slice none 0 0, .int .i64 0, .int .i64 0] 25))
  go_enter Try.func57, Try.ntmps57
  go_upto_region 1 with (fail)
  obtain ⟨u, hu⟩ : ∃ u, u = ((w.alloc (.cells #[.slice A n c, .int .i64 now, .int .i64 next] 25)).alloc (.cells #[.slice none 0 0, .int .i64 0, .int .i64 0] 25)) := ⟨_, rfl⟩
  rw [← hu] at HV K0 K1 ⊢
  clear hu
  obtain ⟨x0, x1, x2, x3, x4, x5, x6⟩ := cell3 K0.out
  by_cases h : 0 ≤ next
  · have hd : decide (next ≥ 0) = true := decide_eq_true h
    have E1 : Hid (endNow now next = next) := if_pos h
    have E2 : Hid (endNext next = -1) := if_pos h
    have G0 := Lib.hid (set3b (u := .int .i64 next) K0.out)
    have G1 := Lib.hid (set3c (u := .int .i64 (-1)) G0.out)
    have G2 := Lib.hid (gblk (gset (g := w.heap.size) 2 (.int .i64 (-1))) (gblk (gset (g := w.heap.size) 1 (.int .i64 next)) K1.out (by simp)) (by simp))
    have HV2 := Lib.hid ((HV.out.setCell (p := ⟨w.heap.size, 1, none⟩) (Nat.le_refl _) (.int .i64 next)).setCell (p := ⟨w.heap.size, 2, none⟩) (Nat.le_refl _) (.int .i64 (-1)))
    have HV3 := Lib.hid (bset3 (b := w.heap.size + 1) HV2.out (by omega) (.slice A n c) (.int .i64 next) (.int .i64 (-1)))
    obtain ⟨y0, y1, y2, y3, y4, y5, y6⟩ := cell3 G0.out
    obtain ⟨z0, z1, z2, z3, z4, z5, z6⟩ := cell3 G1.out
    obtain ⟨r0, r1, r2, r3, r4, r5, r6⟩ := cell3 G2.out
    obtain ⟨f0, f1, f2, _, _, _, _⟩ := cell3 (set3 (u := .slice A n c) (v := .int .i64 next) (t := .int .i64 (-1)) G2.out)
    go_wp2_with fail
    exact bodyPost_ret (v := .agg #[.slice A n c, .int .i64 next, .int .i64 (-1)]) (by simp [results, Try.results57, go_sem, f0, f1, f2]) rfl ⟨by rw [E1.out, E2.out], HV3.out⟩
  · have hd : decide (next ≥ 0) = false := decide_eq_false h
    have E1 : Hid (endNow now next = now) := if_neg h
    have E2 : Hid (endNext next = next) := if_neg h
    have HV3 := Lib.hid (bset3 (b := w.heap.size + 1) HV.out (by omega) (.slice A n c) (.int .i64 now) (.int .i64 next))
    obtain ⟨r0, r1, r2, r3, r4, r5, r6⟩ := cell3 K1.out
    obtain ⟨f0, f1, f2, _, _, _, _⟩ := cell3 (set3 (u := .slice A n c) (v := .int .i64 now) (t := .int .i64 next) K1.out)
    go_wp2_with fail
    exact bodyPost_ret (v := .agg #[.slice A n c, .int .i64 now, .int .i64 next]) (by simp [results, Try.results57, go_sem, f0, f1, f2]) rfl ⟨by rw [E1.out, E2.out], HV3.out⟩
end Go.Proofs.Ytapkgncmjinedaa
