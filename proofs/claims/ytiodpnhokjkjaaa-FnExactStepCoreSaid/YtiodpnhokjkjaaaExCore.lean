/- The exact laws' helpers for cores: for every input. -/
import Derived.Test.YtiodpnhokjkjaaaExInt
import Derived.Test.YtiodpnhokjkjaaaCok
namespace Go.Proofs.Ytiodpnhokjkjaaa
open Go.RowKit Go.Sort
theorem callSzCore (A : Option Addr) (c : Nat) (x : Cor) (left : Int) (w : World) (hn : x.cs.length ≤ 9223372036854775807) (h0 : 0 ≤ left) (h1 : left ≤ 1048576) :
    Calls Try.prog 25 #[.agg #[.slice A x.cs.length c, .int .i64 x.at', .bool x.stop], .int .i64 left] w fun e w' => e = .returned (.int .i64 (szF x.cs.length left)) ∧ Below w.heap.size w w' := by
  have HV := Lib.hid (below1 w (.cells #[.slice A x.cs.length c, .int .i64 x.at', .bool x.stop] 43))
  have K0 := heap_alloc_new w (.cells #[.slice A x.cs.length c, .int .i64 x.at', .bool x.stop] 43)
  obtain ⟨p0, p1, p2, _, _, _, _⟩ := cell3 K0
  have E : Hid (szF x.cs.length left = if (x.cs.length : Int) ≤ left then left - x.cs.length else -1) := rfl
  clear K0
  go_enter Try.func25, Try.ntmps25
  go_wp2_with fail
  refine (callSzIntS A c x.cs.length left _ hn h0 h1).mono ?_
  rintro e w1 ⟨rfl, rfl⟩
  by_cases h : (x.cs.length : Int) ≤ left
  · have E2 := Lib.hid (E.out.trans (if_pos h))
    rw [E2.out]
    have hd : decide (left - (x.cs.length : Int) < 0) = false := decide_eq_false (by omega)
    go_wp2
    go_ret
    exact ⟨by rw [E2.out] <;> rfl, HV.out⟩
  · have E2 := Lib.hid (E.out.trans (if_neg h))
    rw [E2.out]
    go_wp2
    go_ret
    exact ⟨by rw [E2.out] <;> rfl, HV.out⟩
set_option maxRecDepth 100000 in
set_option maxHeartbeats 1600000 in
theorem callToCore (A : Option Addr) (c : Nat) (x : Cor) (w : World) (B : Nat) (hB : B ≤ w.heap.size) (hm : x.cs.length ≤ 1048576) (hr : Rd eInt w B A x.cs) :
    Calls Try.prog 27 #[.agg #[.slice A x.cs.length c, .int .i64 x.at', .bool x.stop]] w (CorRes w x) := by
  have HV := Lib.hid (below2 w (.cells #[.slice A x.cs.length c, .int .i64 x.at', .bool x.stop] 43) (.cells #[.slice none 0 0, .int .i64 0, .bool false] 33))
  have K0 := Lib.hid (alloc_at0 w (.cells #[.slice A x.cs.length c, .int .i64 x.at', .bool x.stop] 43) (.cells #[.slice none 0 0, .int .i64 0, .bool false] 33))
  have K1 := Lib.hid (alloc_at1 w (.cells #[.slice A x.cs.length c, .int .i64 x.at', .bool x.stop] 43) (.cells #[.slice none 0 0, .int .i64 0, .bool false] 33))
  have hsz : ((w.alloc (.cells #[.slice A x.cs.length c, .int .i64 x.at', .bool x.stop] 43)).alloc (.cells #[.slice none 0 0, .int .i64 0, .bool false] 33)).heap.size = w.heap.size + 2 := by simp
  have HR := Lib.hid hr
  clear hr
  go_enter Try.func27, Try.ntmps27
  go_upto_region 1 with (fail)
  obtain ⟨u, hu⟩ : ∃ u, u = ((w.alloc (.cells #[.slice A x.cs.length c, .int .i64 x.at', .bool x.stop] 43)).alloc (.cells #[.slice none 0 0, .int .i64 0, .bool false] 33)) := ⟨_, rfl⟩
  rw [← hu] at HV K0 K1 hsz ⊢
  clear hu
  have HV2 := Lib.hid (bel_trans HV.out (below1 u (.cells #[.slice none 0 0, .int .i64 0, .bool false] 33)))
  have P0 := Lib.hid (blkc K0.out (below1 u (.cells #[.slice none 0 0, .int .i64 0, .bool false] 33)))
  have R0 := Lib.hid (blkc K1.out (below1 u (.cells #[.slice none 0 0, .int .i64 0, .bool false] 33)))
  have O0 : Hid ((u.alloc (.cells #[.slice none 0 0, .int .i64 0, .bool false] 33)).heap[w.heap.size + 2]? = some (.cells #[.slice none 0 0, .int .i64 0, .bool false] 33 (0, 0))) := by have h := heap_alloc_new u (.cells #[.slice none 0 0, .int .i64 0, .bool false] 33); rw [hsz] at h; exact h
  go_upto_region 2 with (fail)
  obtain ⟨v, hv⟩ : ∃ v, v = u.alloc (.cells #[.slice none 0 0, .int .i64 0, .bool false] 33) := ⟨_, rfl⟩
  rw [← hv] at HV2 P0 R0 O0 ⊢
  clear hv hsz K0 K1 HV
  obtain ⟨p0, p1, p2, _, _, _, _⟩ := cell3 P0.out
  go_wp2_with fail
  refine (callToIntS A c x.cs v B (by have := HV2.out.size; omega) hm (HR.out.below (HV2.out.mono hB))).mono ?_
  obtain ⟨A', hA'⟩ : ∃ A', A' = some (⟨v.heap.size, 0, none⟩ : Addr) := ⟨_, rfl⟩
  rw [← hA']
  rintro e w1 ⟨rfl, ho, hb⟩
  have HO := Lib.hid (ho.more (base' := w.heap.size + 3) (by have := (cell3 O0.out).2.2.2.2.2.2; omega))
  have HB1 := Lib.hid (bel_trans HV2.out hb)
  have P1 := Lib.hid (blkc P0.out hb)
  have R1 := Lib.hid (blkc R0.out hb)
  have O1 := Lib.hid (blkc O0.out hb)
  clear ho hb hA' p0 p1 p2 P0 R0 O0 HV2 HR
  have O2 := Lib.hid (set3a (u := .slice A' x.cs.length x.cs.length) O1.out)
  have O3 := Lib.hid (set3b (u := .int .i64 x.at') O2.out)
  have O4 := Lib.hid (set3c (u := .bool x.stop) O3.out)
  have G2 := gset (w := w1) (g := w.heap.size + 2) 0 (.slice A' x.cs.length x.cs.length)
  have G3 := gset (w := w1.setCell ⟨w.heap.size + 2, 0, none⟩ (.slice A' x.cs.length x.cs.length)) (g := w.heap.size + 2) 1 (.int .i64 x.at')
  have G4 := gset (w := (w1.setCell ⟨w.heap.size + 2, 0, none⟩ (.slice A' x.cs.length x.cs.length)).setCell ⟨w.heap.size + 2, 1, none⟩ (.int .i64 x.at')) (g := w.heap.size + 2) 2 (.bool x.stop)
  have P2 := Lib.hid (gblk G2 P1.out (by simp))
  have P3 := Lib.hid (gblk G3 P2.out (by simp))
  have R4 := Lib.hid (gblk G4 (gblk G3 (gblk G2 R1.out (by simp)) (by simp)) (by simp))
  have HB4 := Lib.hid (((HB1.out.setCell (p := ⟨w.heap.size + 2, 0, none⟩) (by show _ ≤ w.heap.size + 2; omega) (.slice A' x.cs.length x.cs.length)).setCell (p := ⟨w.heap.size + 2, 1, none⟩) (by show _ ≤ w.heap.size + 2; omega) (.int .i64 x.at')).setCell (p := ⟨w.heap.size + 2, 2, none⟩) (by show _ ≤ w.heap.size + 2; omega) (.bool x.stop))
  have HB5 := Lib.hid (bset3 (b := w.heap.size + 1) HB4.out (by omega) (.slice A' x.cs.length x.cs.length) (.int .i64 x.at') (.bool x.stop))
  have HO4 := Lib.hid ((((HO.out.kept G2 (fun k hk => by cases hk; omega)).kept G3 (fun k hk => by cases hk; omega)).kept G4 (fun k hk => by cases hk; omega)).kept (gset3 (g := w.heap.size + 1) (.slice A' x.cs.length x.cs.length) (.int .i64 x.at') (.bool x.stop)) (fun k hk => by cases hk; omega))
  clear G2 G3 G4
  obtain ⟨f0, f1, f2⟩ := res3 R4.out (.slice A' x.cs.length x.cs.length) (.int .i64 x.at') (.bool x.stop)
  obtain ⟨p0, p1, p2, p3, p4, p5, p6⟩ := cell3 P2.out
  obtain ⟨k0, k1, k2, k3, k4, k5, k6⟩ := cell3 P3.out
  obtain ⟨n0, n1, n2, n3, n4, n5, n6⟩ := cell3 O1.out
  obtain ⟨o0, o1, o2, o3, o4, o5, o6⟩ := cell3 O2.out
  obtain ⟨q0, q1, q2, q3, q4, q5, q6⟩ := cell3 O3.out
  obtain ⟨s0, s1, s2, s3, s4, s5, s6⟩ := cell3 O4.out
  obtain ⟨r0, r1, r2, r3, r4, r5, r6⟩ := cell3 R4.out
  go_wp2_with fail
  exact bodyPost_ret (v := .agg #[.slice A' x.cs.length x.cs.length, .int .i64 x.at', .bool x.stop]) (by simp [results, Try.results27, go_sem, f0, f1, f2]) rfl ⟨A', x.cs.length, rfl, HO4.out.more (by omega), Nat.le_refl _, HB5.out⟩
set_option maxRecDepth 100000 in
set_option maxHeartbeats 1600000 in
theorem callEqCoreT (A A' : Option Addr) (c c' : Nat) (x : Cor) (w : World) (B : Nat) (hB : B ≤ w.heap.size) (hm : x.cs.length ≤ 1048576) (hr : Rd eInt w B A x.cs) (hr' : Rd eInt w B A' x.cs) :
    Calls Try.prog 29 #[.agg #[.slice A x.cs.length c, .int .i64 x.at', .bool x.stop], .agg #[.slice A' x.cs.length c', .int .i64 x.at', .bool x.stop]] w fun e w' => e = .returned (.bool true) ∧ Below w.heap.size w w' := by
  have HV := Lib.hid (below2 w (.cells #[.slice A x.cs.length c, .int .i64 x.at', .bool x.stop] 33) (.cells #[.slice A' x.cs.length c', .int .i64 x.at', .bool x.stop] 33))
  have K0 := Lib.hid (alloc_at0 w (.cells #[.slice A x.cs.length c, .int .i64 x.at', .bool x.stop] 33) (.cells #[.slice A' x.cs.length c', .int .i64 x.at', .bool x.stop] 33))
  have K1 := Lib.hid (alloc_at1 w (.cells #[.slice A x.cs.length c, .int .i64 x.at', .bool x.stop] 33) (.cells #[.slice A' x.cs.length c', .int .i64 x.at', .bool x.stop] 33))
  have HR := Lib.hid (hr.below (HV.out.mono hB))
  have HR' := Lib.hid (hr'.below (HV.out.mono hB))
  have e1 : (x.at' != x.at') = false := by simp
  have e2 : (x.stop != x.stop) = false := by simp
  clear hr hr'
  go_enter Try.func29, Try.ntmps29
  go_upto_region 1 with (fail)
  obtain ⟨u, hu⟩ : ∃ u, u = ((w.alloc (.cells #[.slice A x.cs.length c, .int .i64 x.at', .bool x.stop] 33)).alloc (.cells #[.slice A' x.cs.length c', .int .i64 x.at', .bool x.stop] 33)) := ⟨_, rfl⟩
  rw [← hu] at HV K0 K1 HR HR' ⊢
  clear hu
  obtain ⟨p0, p1, p2, _, _, _, _⟩ := cell3 K0.out
  obtain ⟨q0, q1, q2, _, _, _, _⟩ := cell3 K1.out
  go_wp2_with fail
  refine (callEqIntST A A' c c' x.cs u B (Nat.le_trans hB HV.out.size) hm HR.out HR'.out).mono ?_
  rintro e w1 ⟨rfl, hb1⟩
  have HB1 := Lib.hid (bel_trans HV.out hb1)
  obtain ⟨r0, r1, r2, _, _, _, _⟩ := cell3 (blkc K0.out hb1)
  obtain ⟨s0, s1, s2, _, _, _, _⟩ := cell3 (blkc K1.out hb1)
  clear hb1 p0 p1 p2 q0 q1 q2
  go_wp2
  go_ret
  exact ⟨rfl, HB1.out⟩
/-- A box was made, and then cells of the blocks lo .. hi - 1 were overwritten. -/
theorem callMarkCoreW (A : Option Addr) (n c : Nat) (a : Int) (s : Bool) (m : Int) (lo hi : Nat) (w : World) (hm0 : 0 ≤ m) (hm : m ≤ 1000000000000000000) (hn : n ≤ 1048576) (hh : hi ≤ w.heap.size) (hwr : Wr 1 w lo hi A n) :
    Calls Try.prog 31 #[.agg #[.slice A n c, .int .i64 a, .bool s], .int .i64 m] w fun e w' => e = .returned (.int .i64 (m + n)) ∧ ∃ u, Below w.heap.size w u ∧ Mk lo hi u w' := by
  have HV := Lib.hid (below1 w (.cells #[.slice A n c, .int .i64 a, .bool s] 33))
  have K0 := heap_alloc_new w (.cells #[.slice A n c, .int .i64 a, .bool s] 33)
  obtain ⟨p0, p1, p2, _, _, _, _⟩ := cell3 K0
  have HW := Lib.hid (hwr.below HV.out hh)
  clear K0 hwr
  go_enter Try.func31, Try.ntmps31
  go_wp2_with fail
  refine (callMarkIntSW A n c m lo hi _ hm0 hm hn HW.out).mono ?_
  rintro e w1 ⟨rfl, hmk⟩
  have HM := Lib.hid hmk
  clear hmk
  go_wp2
  go_ret
  exact ⟨rfl, _, HV.out, HM.out⟩
theorem callMarkCore (A : Option Addr) (c : Nat) (xs : List Int) (a : Int) (s : Bool) (m : Int) (base hi : Nat) (w : World) (hh : hi ≤ w.heap.size) (hm0 : 0 ≤ m) (hm : m ≤ 1000000000000000000) (hn : xs.length ≤ 1048576) (ho : Own eInt 3 w base (.slice A xs.length c) xs) (hrd : Rd eInt w hi A xs) :
    Calls Try.prog 31 #[.agg #[.slice A xs.length c, .int .i64 a, .bool s], .int .i64 m] w fun e w' => e = .returned (.int .i64 (m + xs.length)) ∧ (∃ u, Below w.heap.size w u ∧ Mk base hi u w') ∧ Own eInt 3 w' base (.slice A xs.length c) (marksI m xs.length) := by
  have HV := Lib.hid (below1 w (.cells #[.slice A xs.length c, .int .i64 a, .bool s] 33))
  have K0 := heap_alloc_new w (.cells #[.slice A xs.length c, .int .i64 a, .bool s] 33)
  obtain ⟨p0, p1, p2, _, _, _, _⟩ := cell3 K0
  have HO := Lib.hid (ho.alloc (.cells #[.slice A xs.length c, .int .i64 a, .bool s] 33))
  have HRD := Lib.hid (hrd.below (HV.out.mono hh))
  clear K0 ho hrd
  go_enter Try.func31, Try.ntmps31
  go_wp2_with fail
  refine (callMarkIntSH A c xs m base hi _ hm0 hm hn HO.out HRD.out).mono ?_
  rintro e w1 ⟨rfl, hmk, ho1⟩
  have HM := Lib.hid hmk
  have HO1 := Lib.hid ho1
  clear hmk ho1
  go_wp2
  go_ret
  exact ⟨rfl, ⟨_, HV.out, HM.out⟩, HO1.out⟩
theorem callHeldCore (A : Option Addr) (c n : Nat) (a : Int) (s : Bool) (m : Int) (w : World) (B : Nat) (hB : B ≤ w.heap.size) (hm0 : 0 ≤ m) (hm : m ≤ 1000000000000000000) (hn : n ≤ 1048576) (hr : Rd eInt w B A (marksI m n)) :
    Calls Try.prog 33 #[.agg #[.slice A n c, .int .i64 a, .bool s], .int .i64 m] w fun e w' => e = .returned (.int .i64 (m + n)) ∧ Below w.heap.size w w' := by
  have HV := Lib.hid (below1 w (.cells #[.slice A n c, .int .i64 a, .bool s] 33))
  have K0 := heap_alloc_new w (.cells #[.slice A n c, .int .i64 a, .bool s] 33)
  obtain ⟨p0, p1, p2, _, _, _, _⟩ := cell3 K0
  have HR := Lib.hid (hr.below (HV.out.mono hB))
  clear K0 hr
  go_enter Try.func33, Try.ntmps33
  go_wp2_with fail
  refine (callHeldIntS A c n m _ B (Nat.le_trans hB HV.out.size) hm0 hm hn HR.out).mono ?_
  rintro e w1 ⟨rfl, hb1⟩
  have HB1 := Lib.hid (bel_trans HV.out hb1)
  have hd : decide (m + (n : Int) < 0) = false := decide_eq_false (by omega)
  clear hb1
  go_wp2
  go_ret
  exact ⟨rfl, HB1.out⟩
end Go.Proofs.Ytiodpnhokjkjaaa
