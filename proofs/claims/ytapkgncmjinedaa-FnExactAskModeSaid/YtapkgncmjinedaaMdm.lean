/- sameModes of the laws: true at two modes of the same content, for every input. -/
import Derived.Test.YtapkgncmjinedaaMds
namespace Go.Proofs.Ytapkgncmjinedaa
open Go.RowKit Go.Sort
set_option maxRecDepth 100000 in
set_option maxHeartbeats 1600000 in
theorem callSameModesT (A A' : Option Addr) (c c' : Nat) (ts us : List Tab) (now next : Int) (w : World) (B : Nat) (hB : B ≤ w.heap.size) (hm : ts.length ≤ 1048576) (hT : ts.map Tab.slots = us.map Tab.slots) (hr : RdT w B A ts) (hr' : RdT w B A' us) :
    Calls Try.prog 32 #[.agg #[.slice A ts.length c, .int .i64 now, .int .i64 next], .agg #[.slice A' us.length c', .int .i64 now, .int .i64 next]] w fun e w' => e = .returned (.bool true) ∧ Below w.heap.size w w' := by
  have HL : Hid (ts.length = us.length) := by show _ = _; have := congrArg List.length hT; simpa using this
  have HS : Hid (∀ (k : Nat) (h : k < ts.length) (h' : k < us.length), ts[k].slots = us[k].slots) := fun k h h' => by
    have h5 : (ts.map Tab.slots)[k]'(by simpa using h) = (us.map Tab.slots)[k]'(by simpa using h') := by congr 1
    simpa using h5
  have HV := Lib.hid (below2 w (.cells #[.slice A ts.length c, .int .i64 now, .int .i64 next] 25) (.cells #[.slice A' us.length c', .int .i64 now, .int .i64 next] 25))
  have K0 := Lib.hid (alloc_at0 w (.cells #[.slice A ts.length c, .int .i64 now, .int .i64 next] 25) (.cells #[.slice A' us.length c', .int .i64 now, .int .i64 next] 25))
  have K1 := Lib.hid (alloc_at1 w (.cells #[.slice A ts.length c, .int .i64 now, .int .i64 next] 25) (.cells #[.slice A' us.length c', .int .i64 now, .int .i64 next] 25))
  have HR := Lib.hid (hr.below (HV.out.mono hB))
  have HR' := Lib.hid (hr'.below (HV.out.mono hB))
  clear hr hr' hT
  go_enter Try.func32, Try.ntmps32
  go_upto_region 1 with (fail)
  obtain ⟨u, hu⟩ : ∃ u, u = ((w.alloc (.cells #[.slice A ts.length c, .int .i64 now, .int .i64 next] 25)).alloc (.cells #[.slice A' us.length c', .int .i64 now, .int .i64 next] 25)) := ⟨_, rfl⟩
  rw [← hu] at HV K0 K1 HR HR' ⊢
  clear hu
  have hsu : w.heap.size + 1 < u.heap.size := (cell3 K1.out).2.2.2.2.2.2
  have hd0 : ((ts.length : Int) != (us.length : Int)) = false := by rw [HL.out]; simp
  obtain ⟨x0, x1, x2, _, _, _, _⟩ := cell3 K0.out
  obtain ⟨y0, y1, y2, _, _, _, _⟩ := cell3 K1.out
  go_wp2
  clear x0 x1 x2 y0 y1 y2
  go_loopw [5] (fun i wr => ∃ k : Nat, k ≤ ts.length ∧ i = .int .i64 k ∧ Hid (Below u.heap.size u wr)) (fun i _ => ts.length - (intOf i).toNat)
  case atStart => exact ⟨0, by omega, rfl, Below.refl _ _⟩
  case round =>
    obtain ⟨k, hk, rfl, HB⟩ := hrel
    obtain ⟨x0, x1, x2, _, _, _, _⟩ := cell3 (blkc K0.out HB.out)
    obtain ⟨y0, y1, y2, _, _, _, _⟩ := cell3 (blkc K1.out HB.out)
    by_cases hlt : k < ts.length
    · have hlt' : k < us.length := by have := HL.out; omega
      have hd : decide ((k : Int) < ts.length) = true := decide_eq_true (by omega)
      have hd' : decide ((k : Int) < us.length) = true := decide_eq_true (by omega)
      have hBu : B ≤ u.heap.size := by omega
      obtain ⟨b, off, rfl, hbB, h1⟩ := (HR.out.1.below (HB.out.mono hBu)).at1 rfl hlt rfl
      obtain ⟨b', off', rfl, hbB', h2⟩ := (HR'.out.1.below (HB.out.mono hBu)).at1 rfl hlt' rfl
      have C0 : QCall Try.prog 73 #[.slice ts[k].A ts[k].slots.length ts[k].c, .slice us[k].A us[k].slots.length us[k].c] wr (.bool true) := QCall.of fun W' hb => by
        have hW := HB.out.trans (hb.mono HB.out.size)
        refine (callSameSlots ts[k].A us[k].A ts[k].c us[k].c ts[k].slots us[k].slots W' B (Nat.le_trans hBu hW.size) (HR.out.slots hlt).2 (HR'.out.slots hlt').2 ((HR.out.slots hlt).1.below (hW.mono hBu)) ((HR'.out.slots hlt').1.below (hW.mono hBu))).mono ?_
        rintro e W2 ⟨⟨q, rfl, hq⟩, hb2⟩
        rw [hq.2 (HS.out k hlt hlt')]
        exact ⟨rfl, hb2⟩
      unfold QCall at C0
      have k0 := cell_regrown x0
      have k1 := cell_regrown y0
      have k2 := cell_regrown h1
      have k3 := cell_regrown h2
      go_upto_region 6 with (fail)
      clear x0 x1 x2 y0 y1 y2 h1 h2
      refine wp_region_quiet_below (by kernel_rfl) (by kernel_rfl) ?_
      repeat (first | go_big_quiet_step (first | (go_at_call 73; with_reducible exact C0 _ _)) | quiet_step (first | (go_at_call 73; with_reducible exact C0 _ _)))
      refine wpQuiet_nil ?_
      intro w1 hw1
      have HB2 := Lib.hid (below_of_regrown hw1)
      clear hw1 k0 k1 k2 k3 C0
      go_wp2
      go_roundw
      case rel => exact ⟨k + 1, by omega, by go_num, HB.out.trans (HB2.out.mono HB.out.size)⟩
      case measure => simp [intOf]; omega
    · have hke : k = ts.length := by omega
      have hd : decide ((k : Int) < ts.length) = false := decide_eq_false (by omega)
      have hn1 : (now == now) = true := by simp
      have hn2 : (next == next) = true := by simp
      go_wp2
      go_ret
      exact ⟨rfl, bel_trans HV.out HB.out⟩
end Go.Proofs.Ytapkgncmjinedaa
