/- The exact laws' helpers for Transfer: for every input. -/
import Derived.Test.YtaeimnfdedcgkaaExm
import Derived.Test.YtaeimnfdedcgkaaLib
import Derived.BigQuiet
import Derived.Deep.DeepCutAuto
namespace Go.Proofs.Ytaeimnfdedcgkaa
open Go.RowKit Go.Sort
theorem callToTransfer (x : Trn) (w : World) :
    Calls Try.prog 38 #[.agg #[.int .i64 x.place, .int .i64 x.count, .bool x.write]] w fun e w' => e = .returned (.agg #[.int .i64 x.place, .int .i64 x.count, .bool x.write]) ∧ Below w.heap.size w w' := by
  have HV := Lib.hid (below2 w (.cells #[.int .i64 x.place, .int .i64 x.count, .bool x.write] 59) (.cells #[.int .i64 0, .int .i64 0, .bool false] 25))
  have K0 := Lib.hid (alloc_at0 w (.cells #[.int .i64 x.place, .int .i64 x.count, .bool x.write] 59) (.cells #[.int .i64 0, .int .i64 0, .bool false] 25))
  have K1 := Lib.hid (alloc_at1 w (.cells #[.int .i64 x.place, .int .i64 x.count, .bool x.write] 59) (.cells #[.int .i64 0, .int .i64 0, .bool false] 25))
  have hsz : ((w.alloc (.cells #[.int .i64 x.place, .int .i64 x.count, .bool x.write] 59)).alloc (.cells #[.int .i64 0, .int .i64 0, .bool false] 25)).heap.size = w.heap.size + 2 := by simp
  go_enter Try.func38, Try.ntmps38
  go_upto_region 1 with (fail)
  obtain ⟨u, hu⟩ : ∃ u, u = ((w.alloc (.cells #[.int .i64 x.place, .int .i64 x.count, .bool x.write] 59)).alloc (.cells #[.int .i64 0, .int .i64 0, .bool false] 25)) := ⟨_, rfl⟩
  rw [← hu] at HV K0 K1 hsz ⊢
  clear hu
  have HV2 := Lib.hid (bel_trans HV.out (below1 u (.cells #[.int .i64 0, .int .i64 0, .bool false] 25)))
  have P0 := Lib.hid (blkc K0.out (below1 u (.cells #[.int .i64 0, .int .i64 0, .bool false] 25)))
  have R0 := Lib.hid (blkc K1.out (below1 u (.cells #[.int .i64 0, .int .i64 0, .bool false] 25)))
  have O0 : Hid ((u.alloc (.cells #[.int .i64 0, .int .i64 0, .bool false] 25)).heap[w.heap.size + 2]? = some (.cells #[.int .i64 0, .int .i64 0, .bool false] 25 (0, 0))) := by have h := heap_alloc_new u (.cells #[.int .i64 0, .int .i64 0, .bool false] 25); rw [hsz] at h; exact h
  go_upto_region 2 with (fail)
  obtain ⟨v, hv⟩ : ∃ v, v = u.alloc (.cells #[.int .i64 0, .int .i64 0, .bool false] 25) := ⟨_, rfl⟩
  rw [← hv] at HV2 P0 R0 O0 ⊢
  clear hv hsz K0 K1 HV
  have O1 := Lib.hid (set3a (u := (.int .i64 x.place)) O0.out)
  have P1 := Lib.hid (gblk (gset (w := v) (g := w.heap.size + 2) 0 (.int .i64 x.place)) P0.out (by simp))
  have R1 := Lib.hid (gblk (gset (w := v) (g := w.heap.size + 2) 0 (.int .i64 x.place)) R0.out (by simp))
  have HV3 := Lib.hid (HV2.out.setCell (p := ⟨w.heap.size + 2, 0, none⟩) (by show _ ≤ w.heap.size + 2; omega) (.int .i64 x.place))
  have O2 := Lib.hid (set3b (u := (.int .i64 x.count)) O1.out)
  have P2 := Lib.hid (gblk (gset (w := (v.setCell ⟨w.heap.size + 2, 0, none⟩ (.int .i64 x.place))) (g := w.heap.size + 2) 1 (.int .i64 x.count)) P1.out (by simp))
  have R2 := Lib.hid (gblk (gset (w := (v.setCell ⟨w.heap.size + 2, 0, none⟩ (.int .i64 x.place))) (g := w.heap.size + 2) 1 (.int .i64 x.count)) R1.out (by simp))
  have HV4 := Lib.hid (HV3.out.setCell (p := ⟨w.heap.size + 2, 1, none⟩) (by show _ ≤ w.heap.size + 2; omega) (.int .i64 x.count))
  have O3 := Lib.hid (set3c (u := (.bool x.write)) O2.out)
  have P3 := Lib.hid (gblk (gset (w := ((v.setCell ⟨w.heap.size + 2, 0, none⟩ (.int .i64 x.place)).setCell ⟨w.heap.size + 2, 1, none⟩ (.int .i64 x.count))) (g := w.heap.size + 2) 2 (.bool x.write)) P2.out (by simp))
  have R3 := Lib.hid (gblk (gset (w := ((v.setCell ⟨w.heap.size + 2, 0, none⟩ (.int .i64 x.place)).setCell ⟨w.heap.size + 2, 1, none⟩ (.int .i64 x.count))) (g := w.heap.size + 2) 2 (.bool x.write)) R2.out (by simp))
  have HV5 := Lib.hid (HV4.out.setCell (p := ⟨w.heap.size + 2, 2, none⟩) (by show _ ≤ w.heap.size + 2; omega) (.bool x.write))
  obtain ⟨p00, p01, p02, p03, p04, p05, p06⟩ := cell3 P0.out
  obtain ⟨o00, o01, o02, o03, o04, o05, o06⟩ := cell3 O0.out
  obtain ⟨p10, p11, p12, p13, p14, p15, p16⟩ := cell3 P1.out
  obtain ⟨o10, o11, o12, o13, o14, o15, o16⟩ := cell3 O1.out
  obtain ⟨p20, p21, p22, p23, p24, p25, p26⟩ := cell3 P2.out
  obtain ⟨o20, o21, o22, o23, o24, o25, o26⟩ := cell3 O2.out
  obtain ⟨o30, o31, o32, o33, o34, o35, o36⟩ := cell3 O3.out
  obtain ⟨r0, r1, r2, r3, r4, r5, r6⟩ := cell3 R3.out
  obtain ⟨f0, f1, f2⟩ := res3 R3.out (.int .i64 x.place) (.int .i64 x.count) (.bool x.write)
  have HF := Lib.hid (bset3 (b := w.heap.size + 1) HV5.out (by omega) (.int .i64 x.place) (.int .i64 x.count) (.bool x.write))
  go_wp2_with fail
  exact bodyPost_ret (v := .agg #[.int .i64 x.place, .int .i64 x.count, .bool x.write]) (by simp [results, Try.results38, go_sem, f0, f1, f2]) rfl ⟨rfl, HF.out⟩
end Go.Proofs.Ytaeimnfdedcgkaa
