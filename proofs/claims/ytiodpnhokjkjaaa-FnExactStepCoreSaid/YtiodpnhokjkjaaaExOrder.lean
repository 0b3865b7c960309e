/- The exact laws' helpers for Order: for every input. -/
import Derived.Test.YtiodpnhokjkjaaaExm
import Derived.Test.YtiodpnhokjkjaaaLib
import Derived.BigQuiet
import Derived.Deep.DeepCutAuto
namespace Go.Proofs.Ytiodpnhokjkjaaa
open Go.RowKit Go.Sort
theorem callSzOrderS (A : Option Addr) (c n : Nat) (left : Int) (w : World) (hn : n ≤ 9223372036854775807) (h0 : 0 ≤ left) (h1 : left ≤ 1048576) :
    Calls Try.prog 26 #[.slice A n c, .int .i64 left] w fun e w' => e = .returned (.int .i64 (szF n left)) ∧ w = w' := by
  have hwl : IntKind.i64.wrap (left - (n : Int)) = left - (n : Int) := IntWalk.i64_in _ (by omega)
  have E : Hid (szF n left = if (n : Int) ≤ left then left - n else -1) := rfl
  by_cases h : (n : Int) ≤ left
  · have E2 := Lib.hid (E.out.trans (if_pos h))
    have hd : decide (left - (n : Int) < 0) = false := decide_eq_false (by omega)
    go_enter Try.func26, Try.ntmps26
    go_wp2
    go_ret
    exact ⟨by rw [E2.out] <;> rfl, rfl⟩
  · have E2 := Lib.hid (E.out.trans (if_neg h))
    have hd : decide (left - (n : Int) < 0) = true := decide_eq_true (by omega)
    go_enter Try.func26, Try.ntmps26
    go_wp2
    go_ret
    exact ⟨by rw [E2.out] <;> rfl, rfl⟩
theorem callToOrder (x : Ord3) (w : World) :
    Calls Try.prog 65 #[.agg #[.int .i64 x.op, .int .i64 x.a, .int .i64 x.b]] w fun e w' => e = .returned (.agg #[.int .i64 x.op, .int .i64 x.a, .int .i64 x.b]) ∧ Below w.heap.size w w' := by
  have HV := Lib.hid (below2 w (.cells #[.int .i64 x.op, .int .i64 x.a, .int .i64 x.b] 89) (.cells #[.int .i64 0, .int .i64 0, .int .i64 0] 41))
  have K0 := Lib.hid (alloc_at0 w (.cells #[.int .i64 x.op, .int .i64 x.a, .int .i64 x.b] 89) (.cells #[.int .i64 0, .int .i64 0, .int .i64 0] 41))
  have K1 := Lib.hid (alloc_at1 w (.cells #[.int .i64 x.op, .int .i64 x.a, .int .i64 x.b] 89) (.cells #[.int .i64 0, .int .i64 0, .int .i64 0] 41))
  have hsz : ((w.alloc (.cells #[.int .i64 x.op, .int .i64 x.a, .int .i64 x.b] 89)).alloc (.cells #[.int .i64 0, .int .i64 0, .int .i64 0] 41)).heap.size = w.heap.size + 2 := by simp
  go_enter Try.func65, Try.ntmps65
  go_upto_region 1 with (fail)
  obtain ⟨u, hu⟩ : ∃ u, u = ((w.alloc (.cells #[.int .i64 x.op, .int .i64 x.a, .int .i64 x.b] 89)).alloc (.cells #[.int .i64 0, .int .i64 0, .int .i64 0] 41)) := ⟨_, rfl⟩
  rw [← hu] at HV K0 K1 hsz ⊢
  clear hu
  have HV2 := Lib.hid (bel_trans HV.out (below1 u (.cells #[.int .i64 0, .int .i64 0, .int .i64 0] 41)))
  have P0 := Lib.hid (blkc K0.out (below1 u (.cells #[.int .i64 0, .int .i64 0, .int .i64 0] 41)))
  have R0 := Lib.hid (blkc K1.out (below1 u (.cells #[.int .i64 0, .int .i64 0, .int .i64 0] 41)))
  have O0 : Hid ((u.alloc (.cells #[.int .i64 0, .int .i64 0, .int .i64 0] 41)).heap[w.heap.size + 2]? = some (.cells #[.int .i64 0, .int .i64 0, .int .i64 0] 41 (0, 0))) := by have h := heap_alloc_new u (.cells #[.int .i64 0, .int .i64 0, .int .i64 0] 41); rw [hsz] at h; exact h
  go_upto_region 2 with (fail)
  obtain ⟨v, hv⟩ : ∃ v, v = u.alloc (.cells #[.int .i64 0, .int .i64 0, .int .i64 0] 41) := ⟨_, rfl⟩
  rw [← hv] at HV2 P0 R0 O0 ⊢
  clear hv hsz K0 K1 HV
  have O1 := Lib.hid (set3a (u := (.int .i64 x.op)) O0.out)
  have P1 := Lib.hid (gblk (gset (w := v) (g := w.heap.size + 2) 0 (.int .i64 x.op)) P0.out (by simp))
  have R1 := Lib.hid (gblk (gset (w := v) (g := w.heap.size + 2) 0 (.int .i64 x.op)) R0.out (by simp))
  have HV3 := Lib.hid (HV2.out.setCell (p := ⟨w.heap.size + 2, 0, none⟩) (by show _ ≤ w.heap.size + 2; omega) (.int .i64 x.op))
  have O2 := Lib.hid (set3b (u := (.int .i64 x.a)) O1.out)
  have P2 := Lib.hid (gblk (gset (w := (v.setCell ⟨w.heap.size + 2, 0, none⟩ (.int .i64 x.op))) (g := w.heap.size + 2) 1 (.int .i64 x.a)) P1.out (by simp))
  have R2 := Lib.hid (gblk (gset (w := (v.setCell ⟨w.heap.size + 2, 0, none⟩ (.int .i64 x.op))) (g := w.heap.size + 2) 1 (.int .i64 x.a)) R1.out (by simp))
  have HV4 := Lib.hid (HV3.out.setCell (p := ⟨w.heap.size + 2, 1, none⟩) (by show _ ≤ w.heap.size + 2; omega) (.int .i64 x.a))
  have O3 := Lib.hid (set3c (u := (.int .i64 x.b)) O2.out)
  have P3 := Lib.hid (gblk (gset (w := ((v.setCell ⟨w.heap.size + 2, 0, none⟩ (.int .i64 x.op)).setCell ⟨w.heap.size + 2, 1, none⟩ (.int .i64 x.a))) (g := w.heap.size + 2) 2 (.int .i64 x.b)) P2.out (by simp))
  have R3 := Lib.hid (gblk (gset (w := ((v.setCell ⟨w.heap.size + 2, 0, none⟩ (.int .i64 x.op)).setCell ⟨w.heap.size + 2, 1, none⟩ (.int .i64 x.a))) (g := w.heap.size + 2) 2 (.int .i64 x.b)) R2.out (by simp))
  have HV5 := Lib.hid (HV4.out.setCell (p := ⟨w.heap.size + 2, 2, none⟩) (by show _ ≤ w.heap.size + 2; omega) (.int .i64 x.b))
  obtain ⟨p00, p01, p02, p03, p04, p05, p06⟩ := cell3 P0.out
  obtain ⟨o00, o01, o02, o03, o04, o05, o06⟩ := cell3 O0.out
  obtain ⟨p10, p11, p12, p13, p14, p15, p16⟩ := cell3 P1.out
  obtain ⟨o10, o11, o12, o13, o14, o15, o16⟩ := cell3 O1.out
  obtain ⟨p20, p21, p22, p23, p24, p25, p26⟩ := cell3 P2.out
  obtain ⟨o20, o21, o22, o23, o24, o25, o26⟩ := cell3 O2.out
  obtain ⟨o30, o31, o32, o33, o34, o35, o36⟩ := cell3 O3.out
  obtain ⟨r0, r1, r2, r3, r4, r5, r6⟩ := cell3 R3.out
  obtain ⟨f0, f1, f2⟩ := res3 R3.out (.int .i64 x.op) (.int .i64 x.a) (.int .i64 x.b)
  have HF := Lib.hid (bset3 (b := w.heap.size + 1) HV5.out (by omega) (.int .i64 x.op) (.int .i64 x.a) (.int .i64 x.b))
  go_wp2_with fail
  exact bodyPost_ret (v := .agg #[.int .i64 x.op, .int .i64 x.a, .int .i64 x.b]) (by simp [results, Try.results65, go_sem, f0, f1, f2]) rfl ⟨rfl, HF.out⟩
set_option maxRecDepth 100000 in
set_option maxHeartbeats 1600000 in
theorem callToOrderS (A : Option Addr) (c : Nat) (xs : List Ord3) (w : World) (B : Nat) (hB : B ≤ w.heap.size) (hm : xs.length ≤ 1048576) (hr : Rd eOrd w B A xs) :
    Calls Try.prog 28 #[.slice A xs.length c] w fun e w' => e = .returned (.slice (some ⟨w.heap.size, 0, none⟩) xs.length xs.length) ∧ Own eOrd 41 w' w.heap.size (.slice (some ⟨w.heap.size, 0, none⟩) xs.length xs.length) xs ∧ Below w.heap.size w w' := by
  have HR := Lib.hid hr
  clear hr
  go_enter Try.func28, Try.ntmps28
  go_wp2_with (at_make; refine wpList_mkE (E := eOrd) _ Try.underlying34 (z := .agg #[.int .i64 0, .int .i64 0, .int .i64 0]) (m := 24) (by kernel_rfl) (by decide) (⟨0, 0, 0⟩ : Ord3) rfl rfl _ _ rfl w.heap.size xs.length xs.length xs.length rfl rfl rfl rfl (by omega) (Nat.le_refl _) ?_; intro w1 hown1 hb1; have HO1 := Lib.hid hown1; have HB1 := Lib.hid hb1; clear hown1 hb1)
  have HF1 := Lib.hid (Fil.start (⟨0, 0, 0⟩ : Ord3) xs)
  go_loopw [4] (fun i wr => ∃ (k : Nat) (ys : List Ord3), i = .int .i64 k ∧ k ≤ xs.length ∧ Hid (Own eOrd 41 wr w.heap.size (.slice (some ⟨w.heap.size, 0, none⟩) xs.length xs.length) ys) ∧ Hid (Fil k ys xs) ∧ Hid (Below w.heap.size w wr) ∧ Hid (w.heap.size ≤ wr.heap.size)) (fun i _ => xs.length - (intOf i).toNat)
  case atStart => exact ⟨0, _, rfl, by omega, HO1.out, HF1.out, HB1.out, HB1.out.size⟩
  case round =>
    clear HO1 HB1 HF1
    obtain ⟨k, ys, rfl, hk, HO, HF, HB, HG⟩ := hrel
    by_cases hlt : k < xs.length
    · have hd : decide ((k : Int) < (xs.length : Int)) = true := decide_eq_true (by omega)
      obtain ⟨b, off, rfl, hbB, h1, h2, h3⟩ := (HR.out.below (HB.out.mono (by omega))).at3 rfl hlt rfl
      obtain ⟨X, hX⟩ : ∃ X, X = xs[k] := ⟨_, rfl⟩
      have HX := Lib.hid hX
      rw [← hX] at h1 h2 h3
      clear hX
      have hku : k < ys.length := by have := HF.out.1; omega
      go_wp2_with fail
      refine (callToOrder X wr).mono ?_
      rintro e w5 ⟨rfl, hb5⟩
      have HO5 := Lib.hid (HO.out.next hb5)
      have HB5 := Lib.hid (HB.out.trans (hb5.mono HG.out))
      have HG5 : Hid (w.heap.size ≤ w5.heap.size) := Nat.le_trans HG.out hb5.size
      obtain ⟨_, hb6, hwr⟩ := HO5.out.cellsAt hku
      obtain ⟨⟨c0, hc0⟩, hf0⟩ := hwr 0 (by decide)
      obtain ⟨⟨c1, hc1⟩, hf1⟩ := hwr 1 (by decide)
      obtain ⟨⟨c2, hc2⟩, hf2⟩ := hwr 2 (by decide)
      simp only [Nat.add_zero] at hc0 hf0 hc1 hf1 hc2 hf2
      clear hb5 hwr HO HB HG h1 h2 h3 hbB
      have HO6 := Lib.hid (HO5.out.set3 rfl (List.getElem?_eq_getElem hku) (x1 := (⟨X.op, ys[k].a, ys[k].b⟩ : Ord3)) (x2 := (⟨X.op, X.a, ys[k].b⟩ : Ord3)) (y := X) (u := (.int .i64 X.op)) (v := (.int .i64 X.a)) (t := (.int .i64 X.b)) rfl rfl rfl)
      have HF6 := Lib.hid (HF.out.step hlt)
      rw [← HX.out] at HF6
      have HB6 := Lib.hid (((HB5.out.setCell (p := ⟨w.heap.size, k * 3, none⟩) (Nat.le_refl w.heap.size) (.int .i64 X.op)).setCell (p := ⟨w.heap.size, k * 3 + 1, none⟩) (Nat.le_refl w.heap.size) (.int .i64 X.a)).setCell (p := ⟨w.heap.size, k * 3 + 2, none⟩) (Nat.le_refl w.heap.size) (.int .i64 X.b))
      go_wp2_with fail
      go_roundw
      case rel => exact ⟨k + 1, ys.set k X, by go_num, by omega, HO6.out, HF6.out, HB6.out, HB6.out.size⟩
      case measure => simp [intOf]; omega
    · have hke : k = xs.length := by omega
      have hd : decide ((k : Int) < (xs.length : Int)) = false := decide_eq_false (by omega)
      have HE := Lib.hid (HF.out.done (by omega))
      clear hke
      go_wp2
      go_ret
      have h := HO.out
      rw [HE.out] at h
      exact ⟨rfl, h, HB.out⟩
theorem callEqOrderT (x : Ord3) (w : World) :
    Calls Try.prog 44 #[.agg #[.int .i64 x.op, .int .i64 x.a, .int .i64 x.b], .agg #[.int .i64 x.op, .int .i64 x.a, .int .i64 x.b]] w fun e w' => e = .returned (.bool true) ∧ Below w.heap.size w w' := by
  have K0 := alloc_at0 w (.cells #[.int .i64 x.op, .int .i64 x.a, .int .i64 x.b] 41) (.cells #[.int .i64 x.op, .int .i64 x.a, .int .i64 x.b] 41)
  have K1 := alloc_at1 w (.cells #[.int .i64 x.op, .int .i64 x.a, .int .i64 x.b] 41) (.cells #[.int .i64 x.op, .int .i64 x.a, .int .i64 x.b] 41)
  obtain ⟨p0, p1, p2, p3, p4, p5, p6⟩ := cell3 K0
  obtain ⟨q0, q1, q2, q3, q4, q5, q6⟩ := cell3 K1
  have e0 : (x.op != x.op) = false := by simp
  have e1 : (x.a != x.a) = false := by simp
  have e2 : (x.b != x.b) = false := by simp
  clear K0 K1
  go_enter Try.func44, Try.ntmps44
  go_wp2
  go_ret
  exact ⟨rfl, below2 _ _ _⟩
set_option maxRecDepth 100000 in
set_option maxHeartbeats 1600000 in
theorem callEqOrderST (A A' : Option Addr) (c c' : Nat) (xs : List Ord3) (w : World) (B : Nat) (hB : B ≤ w.heap.size) (hm : xs.length ≤ 1048576) (hr : Rd eOrd w B A xs) (hr' : Rd eOrd w B A' xs) :
    Calls Try.prog 30 #[.slice A xs.length c, .slice A' xs.length c'] w fun e w' => e = .returned (.bool true) ∧ Below w.heap.size w w' := by
  have HR := Lib.hid hr
  have HR' := Lib.hid hr'
  have hd0 : ((xs.length : Int) != (xs.length : Int)) = false := by simp
  clear hr hr'
  go_enter Try.func30, Try.ntmps30
  go_wp2
  go_loopw [5] (fun i wr => ∃ k : Nat, k ≤ xs.length ∧ i = .int .i64 k ∧ Hid (Below w.heap.size w wr)) (fun i _ => xs.length - (intOf i).toNat)
  case atStart => exact ⟨0, by omega, rfl, Below.refl _ _⟩
  case round =>
    obtain ⟨k, hk, rfl, HB⟩ := hrel
    by_cases hlt : k < xs.length
    · have hd : decide ((k : Int) < (xs.length : Int)) = true := decide_eq_true (by omega)
      obtain ⟨b, off, rfl, hbB, h1, h2, h3⟩ := (HR.out.below (HB.out.mono hB)).at3 rfl hlt rfl
      obtain ⟨b', off', rfl, hbB', k1, k2, k3⟩ := (HR'.out.below (HB.out.mono hB)).at3 rfl hlt rfl
      obtain ⟨X, hX⟩ : ∃ X, X = xs[k] := ⟨_, rfl⟩
      rw [← hX] at h1 k1 h2 k2 h3 k3
      clear hX
      have C0 : QCall Try.prog 44 #[.agg #[.int .i64 X.op, .int .i64 X.a, .int .i64 X.b], .agg #[.int .i64 X.op, .int .i64 X.a, .int .i64 X.b]] wr (.bool true) := QCall.of fun W' hb => callEqOrderT X W'
      unfold QCall at C0
      have r0 := cell_regrown h1
      have s0 := cell_regrown k1
      have r1 := cell_regrown h2
      have s1 := cell_regrown k2
      have r2 := cell_regrown h3
      have s2 := cell_regrown k3
      go_upto_region 6 with (fail)
      clear h1 k1 h2 k2 h3 k3
      refine wp_region_quiet_below (by kernel_rfl) (by kernel_rfl) ?_
      repeat (first | go_big_quiet_step (first | (go_at_call 44; with_reducible exact C0 _ _)) | quiet_step (first | (go_at_call 44; with_reducible exact C0 _ _)))
      refine wpQuiet_nil ?_
      intro w1 hw1
      have HB2 := Lib.hid (below_of_regrown hw1)
      clear hw1 C0 r0 s0 r1 s1 r2 s2
      go_wp2
      go_roundw
      case rel => exact ⟨k + 1, by omega, by go_num, HB.out.trans (HB2.out.mono HB.out.size)⟩
      case measure => simp [intOf]; omega
    · have hke : k = xs.length := by omega
      have hd : decide ((k : Int) < (xs.length : Int)) = false := decide_eq_false (by omega)
      clear hke
      go_wp2
      go_ret
      exact ⟨rfl, HB.out⟩
set_option maxRecDepth 100000 in
set_option maxHeartbeats 1600000 in
theorem callMarkOrderS (A : Option Addr) (n c : Nat) (m : Int) (lo hi : Nat) (w : World) (hm0 : 0 ≤ m) (hm : m ≤ 1000000000000000000) (hn : n ≤ 1048576) (hwr : Wr 3 w lo hi A n) :
    Calls Try.prog 32 #[.slice A n c, .int .i64 m] w fun e w' => e = .returned (.int .i64 (m + 3 * n)) ∧ Mk lo hi w w' := by
  have HW := Lib.hid hwr
  clear hwr
  go_enter Try.func32, Try.ntmps32
  go_wp2
  go_loopw [1, 5] (fun s i wr => ∃ (k : Nat), k ≤ n ∧ i = .int .i64 k ∧ s = .int .i64 (m + 3 * k) ∧ Hid (Mk lo hi w wr)) (fun _ i _ => n - (intOf i).toNat)
  case atStart => exact ⟨0, by omega, rfl, by simp, Mk.refl _ _ _⟩
  case round =>
    obtain ⟨k, hk, rfl, rfl, HM⟩ := hrel
    by_cases hlt : k < n
    · have hd : decide ((k : Int) < (n : Int)) = true := decide_eq_true (by omega)
      obtain ⟨b, rfl, hb1, hb2, hc⟩ := (HW.out.mk HM.out) (by omega)
      obtain ⟨⟨c0, hc0⟩, hf0⟩ := hc (k * 3 + 0) (by omega)
      obtain ⟨⟨c1, hc1⟩, hf1⟩ := hc (k * 3 + 1) (by omega)
      obtain ⟨⟨c2, hc2⟩, hf2⟩ := hc (k * 3 + 2) (by omega)
      simp only [Nat.add_zero] at hc0 hf0 hc1 hf1 hc2 hf2
      clear hc
      have e1 : IntKind.i64.wrap (m + 3 * (k : Int) + 1) = m + 3 * (k : Int) + 1 := IntWalk.i64_in _ (by omega)
      have e2 : IntKind.i64.wrap (m + 3 * (k : Int) + 2) = m + 3 * (k : Int) + 2 := IntWalk.i64_in _ (by omega)
      have e3 : IntKind.i64.wrap (m + 3 * (k : Int) + 3) = m + 3 * (k : Int) + 3 := IntWalk.i64_in _ (by omega)
      go_wp2
      go_roundw
      case rel => exact ⟨k + 1, by omega, by go_num, by simp; omega, (((HM.out.set (g := b) (o := k * 3) hb1 hb2 _).set (g := b) (o := k * 3 + 1) hb1 hb2 _).set (g := b) (o := k * 3 + 2) hb1 hb2 _)⟩
      case measure => simp [intOf]; omega
    · have hke : k = n := by omega
      have hd : decide ((k : Int) < (n : Int)) = false := decide_eq_false (by omega)
      subst hke
      go_wp2
      go_ret
      exact ⟨rfl, HM.out⟩
end Go.Proofs.Ytiodpnhokjkjaaa
