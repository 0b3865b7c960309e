/- The walks of FnExactRunCore and FnExactStepCore: true for every argument, and nothing that was there is written. -/
import Derived.Test.YtiodpnhokjkjaaaXco
import Derived.Deep.RegionLaw
namespace Go.Proofs.Ytiodpnhokjkjaaa
open Go.RowKit Go.Sort
set_option maxRecDepth 100000 in
set_option maxHeartbeats 6400000 in
theorem walkFnExactRunCore (A : Option Addr) (c : Nat) (cr : Cor) (Ao : Option Addr) (co : Nat) (os : List Ord3) (n2 n3 : Int) (w : World) (hn : cr.cs.length ≤ 9223372036854775807) (hr : Rd eInt w w.heap.size A cr.cs) (hno : os.length ≤ 9223372036854775807) (hro : Rd eOrd w w.heap.size Ao os) (_h2 : (Lit.int .i64 n2).wf = true) (_h3 : (Lit.int .i64 n3).wf = true) :
    Calls Try.prog 6 #[.agg #[.slice A cr.cs.length c, .int .i64 cr.at', .bool cr.stop], .slice Ao os.length co, .int .i64 n2, .int .i64 n3] w fun e w' => e = .returned (.bool true) ∧ Below w.heap.size w w' := by
  have HV0 := Lib.hid (below1 w (.cells #[.slice A cr.cs.length c, .int .i64 cr.at', .bool cr.stop] 43))
  have K0 := Lib.hid (heap_alloc_new w (.cells #[.slice A cr.cs.length c, .int .i64 cr.at', .bool cr.stop] 43))
  have HZ := Lib.hid (callSzCore A c cr 1048576 (w.alloc (.cells #[.slice A cr.cs.length c, .int .i64 cr.at', .bool cr.stop] 43)) hn (by omega) (by omega))
  have HR := Lib.hid hr
  have HRO := Lib.hid hro
  have E1 : Hid (szF cr.cs.length 1048576 = if (cr.cs.length : Int) ≤ 1048576 then (1048576 : Int) - (cr.cs.length : Int) else (-1 : Int)) := rfl
  clear hr hro
  obtain ⟨x0, x1, x2, _, _, _, x6⟩ := cell3 K0.out
  go_enter Try.func6, Try.ntmps6
  go_wp2_with fail
  refine HZ.out.mono ?_
  rintro e w1 ⟨rfl, hb1⟩
  have HB1 := Lib.hid (bel_trans HV0.out hb1)
  have K1 := Lib.hid (blkc K0.out hb1)
  have hw1 : w.heap.size < w1.heap.size := (cell3 K1.out).2.2.2.2.2.2
  clear HZ hb1 K0 HV0 x0 x1 x2 x6
  by_cases h0 : (cr.cs.length : Int) ≤ 1048576
  · have E2 := E1.out.trans (if_pos h0)
    rw [E2]
    have hl : cr.cs.length ≤ 1048576 := by omega
    have hd : decide (1048576 - (cr.cs.length : Int) < 0) = false := decide_eq_false (by omega)
    have HZ2 := Lib.hid (callSzOrderS Ao co os.length (1048576 - (cr.cs.length : Int)) w1 hno (by omega) (by omega))
    have E3 : Hid (szF os.length (1048576 - (cr.cs.length : Int)) = if (os.length : Int) ≤ 1048576 - (cr.cs.length : Int) then (1048576 : Int) - (cr.cs.length : Int) - (os.length : Int) else (-1 : Int)) := rfl
    clear E1 E2
    go_wp2_with fail
    refine HZ2.out.mono ?_
    rintro e w1' ⟨rfl, rfl⟩
    clear HZ2
    by_cases h1 : (os.length : Int) ≤ 1048576 - (cr.cs.length : Int)
    · have E4 := E3.out.trans (if_pos h1)
      rw [E4]
      have hlo : os.length ≤ 1048576 := by omega
      have hd2 : decide (1048576 - (cr.cs.length : Int) - (os.length : Int) < 0) = false := decide_eq_false (by omega)
      clear E3 E4 h0 h1
      have HT : Hid (∀ W, Below w.heap.size w W → Calls Try.prog 27 #[.agg #[.slice A cr.cs.length c, .int .i64 cr.at', .bool cr.stop]] W (CorRes W cr)) := fun W hW => callToCore A c cr W W.heap.size (Nat.le_refl _) hl ((HR.out.below hW).mono hW.size)
      have HTO : Hid (∀ W, Below w.heap.size w W → Calls Try.prog 28 #[.slice Ao os.length co] W fun e w' => e = .returned (.slice (some ⟨W.heap.size, 0, none⟩) os.length os.length) ∧ Own eOrd 41 w' W.heap.size (.slice (some ⟨W.heap.size, 0, none⟩) os.length os.length) os ∧ Below W.heap.size W w') := fun W hW => callToOrderS Ao co os W W.heap.size (Nat.le_refl _) hlo ((HRO.out.below hW).mono hW.size)
      obtain ⟨V, hV⟩ : ∃ V, V = runCore cr os n2 n3 := ⟨_, rfl⟩
      have hVl : V.cs.length ≤ 1048576 := by rw [hV]; exact Nat.le_trans (runCore_len cr os n2 n3) hl
      have HSM : Hid (∀ W (A' B' : Option Addr) (c' : Nat), Rd eInt W W.heap.size A' cr.cs → Rd eOrd W W.heap.size B' os → Calls Try.prog 21 #[.agg #[.slice A' cr.cs.length c', .int .i64 cr.at', .bool cr.stop], .slice B' os.length os.length, .int .i64 n2, .int .i64 n3] W fun e w' => ∃ A' c', e = .returned (.agg #[.slice A' V.cs.length c', .int .i64 V.at', .bool V.stop]) ∧ Own eInt 3 w' W.heap.size (.slice A' V.cs.length c') V.cs ∧ Below W.heap.size W w') := fun W A' B' c' h1 h2 => by
        have h := callSRunCore A' c' cr B' os.length os n2 n3 W W.heap.size (Nat.le_refl _) hl hlo h1 h2
        rw [← hV] at h
        refine h.mono ?_
        rintro e w' ⟨A2, c2, rfl, ho, _, hb⟩
        exact ⟨A2, c2, rfl, ho, hb⟩
      have HIM : Hid (∀ W (A' B' : Option Addr) (c' : Nat), cr.cs.length ≤ c' → Rd eInt W W.heap.size A' cr.cs → Rd eOrd W W.heap.size B' os → Calls Try.prog 19 #[.agg #[.slice A' cr.cs.length c', .int .i64 cr.at', .bool cr.stop], .slice B' os.length os.length, .int .i64 n2, .int .i64 n3] W fun e w' => ∃ A' c', e = .returned (.agg #[.slice A' V.cs.length c', .int .i64 V.at', .bool V.stop]) ∧ Own eInt 3 w' W.heap.size (.slice A' V.cs.length c') V.cs ∧ Below W.heap.size W w') := fun W A' B' c' hc h1 h2 => by
        have h := callRunCore A' c' cr B' os.length os n2 n3 W W.heap.size (Nat.le_refl _) hc hl hlo h1 h2
        rw [← hV] at h
        refine h.mono ?_
        rintro e w' ⟨A2, c2, rfl, ho, _, hb⟩
        exact ⟨A2, c2, rfl, ho, hb⟩
      clear hV HR HRO
      obtain ⟨x0, x1, x2, _, _, _, x6⟩ := cell3 K1.out
      go_wp2_with fail
      refine (HT.out w1 HB1.out).mono ?_
      rintro e w2 ⟨A2, c2, rfl, ho2, hc2, hbe⟩
      have R2 := Lib.hid ho2.rd
      have HB2 := Lib.hid (bel_trans HB1.out hbe)
      have K2 := Lib.hid (blkc K1.out hbe)
      have hw2 : w.heap.size < w2.heap.size := by have := hbe.size; omega
      clear ho2 hbe x0 x1 x2 x6 K1 HB1
      go_wp2_with fail
      refine (HTO.out w2 HB2.out).mono ?_
      rintro e w3 ⟨rfl, ho3, hbe⟩
      have HB3 := Lib.hid (bel_trans HB2.out hbe)
      have HC3 := Lib.hid (HSM.out w3 A2 _ c2 (R2.out.next hbe) ho3.rd)
      have K3 := Lib.hid (blkc K2.out hbe)
      have hw3 : w.heap.size < w3.heap.size := by have := hbe.size; omega
      clear ho3 hbe HSM R2 K2 HB2 hw2
      go_wp2_with fail
      refine HC3.out.mono ?_
      rintro e w4 ⟨A3, c3, rfl, ho4, hbe⟩
      have hw4 : w.heap.size < w4.heap.size := by have := hbe.size; omega
      have HBa := Lib.hid (below1 w4 (.cells #[.slice A3 V.cs.length c3, .int .i64 V.at', .bool V.stop] 33))
      have HB5 := Lib.hid (bel_trans (bel_trans HB3.out hbe) HBa.out)
      have K5 := Lib.hid (blkc (blkc K3.out hbe) HBa.out)
      have N6 := Lib.hid (heap_alloc_new w4 (.cells #[.slice A3 V.cs.length c3, .int .i64 V.at', .bool V.stop] 33))
      have N6o : Hid (∀ (q : Ord3), none = some q → (w4.alloc (.cells #[.slice A3 V.cs.length c3, .int .i64 V.at', .bool V.stop] 33)).heap[w4.heap.size + 1]? = some (.cells #[.int .i64 q.op, .int .i64 q.a, .int .i64 q.b] 41 (0, 0))) := (fun q hq => by cases hq)
      have R6 : Hid (Rd eInt (w4.alloc (.cells #[.slice A3 V.cs.length c3, .int .i64 V.at', .bool V.stop] 33)) w4.heap.size A3 V.cs) := ho4.rd.below HBa.out
      clear ho4 hbe HB3 HC3 K3 hw3 HBa
      go_upto_region 9 with (fail)
      obtain ⟨w5, hw5⟩ : ∃ w5, w5 = (w4.alloc (.cells #[.slice A3 V.cs.length c3, .int .i64 V.at', .bool V.stop] 33)) := ⟨_, rfl⟩
      obtain ⟨T6, hT6⟩ : ∃ T6, T6 = w4.heap.size := ⟨_, rfl⟩
      have h65 : T6 < w5.heap.size := by rw [hw5, hT6]; simp
      have h65o : Hid (∀ (q : Ord3), none = some q → T6 + 1 < w5.heap.size) := fun q hq => by cases hq
      rw [← hw5] at HB5 K5 N6 N6o R6 ⊢
      rw [← hT6] at N6 N6o R6 hw4 ⊢
      clear hw5 hT6
      obtain ⟨x0, x1, x2, _, _, _, x6⟩ := cell3 K5.out
      go_wp2_with fail
      refine (HT.out w5 HB5.out).mono ?_
      rintro e w6 ⟨A5, c5, rfl, ho6, hc5, hbe⟩
      have hb7 := bel_trans hbe (below1 w6 (.cells #[.slice A5 cr.cs.length c5, .int .i64 cr.at', .bool cr.stop] 33))
      have h56 := hbe.size
      have HB7 := Lib.hid (bel_trans HB5.out hb7)
      have K7 := Lib.hid (blkc K5.out hb7)
      have N67 := Lib.hid (blkc N6.out hb7)
      have N67o : Hid (∀ (q : Ord3), none = some q → (w6.alloc (.cells #[.slice A5 cr.cs.length c5, .int .i64 cr.at', .bool cr.stop] 33)).heap[T6 + 1]? = some (.cells #[.int .i64 q.op, .int .i64 q.a, .int .i64 q.b] 41 (0, 0))) := fun q hq => blkc (N6o.out q hq) hb7
      have R67 : Hid (Rd eInt (w6.alloc (.cells #[.slice A5 cr.cs.length c5, .int .i64 cr.at', .bool cr.stop] 33)) T6 A3 V.cs) := R6.out.below (hb7.mono (by omega))
      have N7 := Lib.hid (heap_alloc_new w6 (.cells #[.slice A5 cr.cs.length c5, .int .i64 cr.at', .bool cr.stop] 33))
      have X7 : Hid (Rd eInt (w6.alloc (.cells #[.slice A5 cr.cs.length c5, .int .i64 cr.at', .bool cr.stop] 33)) w6.heap.size A5 cr.cs) := ho6.rd.below (below1 w6 _)
      have W7 : Hid (Wr 1 (w6.alloc (.cells #[.slice A5 cr.cs.length c5, .int .i64 cr.at', .bool cr.stop] 33)) w5.heap.size w6.heap.size A5 cr.cs.length) := (ho6.wr).below (below1 w6 _) (Nat.le_refl _)
      clear ho6 hbe hb7 x0 x1 x2 x6 K5 N6 N6o R6 HB5
      go_upto_region 10 with (fail)
      obtain ⟨w7, hw7⟩ : ∃ w7, w7 = w6.alloc (.cells #[.slice A5 cr.cs.length c5, .int .i64 cr.at', .bool cr.stop] 33) := ⟨_, rfl⟩
      obtain ⟨T7, hT7⟩ : ∃ T7, T7 = w6.heap.size := ⟨_, rfl⟩
      have h77 : T7 < w7.heap.size := by rw [hw7, hT7]; simp
      rw [← hw7] at HB7 K7 N67 N67o R67 N7 X7 W7 ⊢
      rw [← hT7] at N7 X7 W7 h56 ⊢
      clear hw7 hT7
      go_wp2_with fail
      refine (HTO.out w7 HB7.out).mono ?_
      rintro e w8 ⟨rfl, ho8, hbe⟩
      have h78 := hbe.size
      have HB8 := Lib.hid (bel_trans HB7.out hbe)
      have K8 := Lib.hid (blkc K7.out hbe)
      have N68 := Lib.hid (blkc N67.out hbe)
      have N68o : Hid (∀ (q : Ord3), none = some q → w8.heap[T6 + 1]? = some (.cells #[.int .i64 q.op, .int .i64 q.a, .int .i64 q.b] 41 (0, 0))) := fun q hq => blkc (N67o.out q hq) hbe
      have R68 : Hid (Rd eInt w8 T6 A3 V.cs) := R67.out.below (hbe.mono (by omega))
      have N78 := Lib.hid (blkc N7.out hbe)
      have X78 : Hid (Rd eInt w8 T7 A5 cr.cs) := X7.out.below (hbe.mono (by omega))
      have W78 : Hid (Wr 1 w8 w5.heap.size T7 A5 cr.cs.length) := W7.out.below hbe (by omega)
      obtain ⟨bo, hbo⟩ : ∃ bo, bo = w7.heap.size := ⟨_, rfl⟩
      have XO : Hid (Rd eOrd w8 w8.heap.size (some ⟨bo, 0, none⟩) os) := by rw [hbo]; exact ho8.rd
      have WO : Hid (Wr 3 w8 w5.heap.size w8.heap.size (some ⟨bo, 0, none⟩) os.length) := by rw [hbo]; exact (ho8.wr).lo (by omega)
      rw [← hbo]
      clear ho8 hbe K7 N67 N67o R67 N7 X7 W7 HB7 hbo
      obtain ⟨y0, y1, y2, _, _, _, _⟩ := cell3 N78.out
      go_wp2_with fail
      refine (HIM.out w8 A5 _ c5 hc5 (X78.out.mono (by omega)) XO.out).mono ?_
      rintro e w9 ⟨A7, c7, rfl, ho9, hbe⟩
      have h89 := hbe.size
      have SF : Hid (CF w A c cr os T6 T7 w9.heap.size w5.heap.size w8.heap.size bo A3 c3 V none A5 c5 A7 c7 (w9.alloc (.cells #[.slice A7 V.cs.length c7, .int .i64 V.at', .bool V.stop] 33))) := by
        have hba := (below1 w9 (.cells #[.slice A7 V.cs.length c7, .int .i64 V.at', .bool V.stop] 33))
        have hb8 := bel_trans hbe hba
        exact ⟨⟨⟨bel_trans HB8.out hb8, blkc K8.out hb8, blkc N68.out hb8, (heap_alloc_new w9 (.cells #[.slice A7 V.cs.length c7, .int .i64 V.at', .bool V.stop] 33)), fun q hq => blkc (N68o.out q hq) hb8, (fun q hq => by cases hq), R68.out.below (hb8.mono (by omega)), by omega, by omega, h65o.out, by omega, by omega, h89⟩, ho9.next hba, ho9.rd.below hba, WO.out.below hb8 (Nat.le_refl _)⟩, blkc N78.out hb8, X78.out.below (hb8.mono (by omega)), W78.out.below hb8 (by omega), XO.out.below hb8⟩
      clear ho9 hbe y0 y1 y2 K8 N68 N68o R68 N78 X78 W78 XO WO HB8
      go_upto_region 12 with (fail)
      obtain ⟨wa, hwa⟩ : ∃ wa, wa = (w9.alloc (.cells #[.slice A7 V.cs.length c7, .int .i64 V.at', .bool V.stop] 33)) := ⟨_, rfl⟩
      obtain ⟨T8, hT8⟩ : ∃ T8, T8 = w9.heap.size := ⟨_, rfl⟩
      obtain ⟨H1, hH1⟩ : ∃ H1, H1 = w8.heap.size := ⟨_, rfl⟩
      obtain ⟨L7, hL7⟩ : ∃ L7, L7 = w5.heap.size := ⟨_, rfl⟩
      rw [← hwa, ← hT8, ← hH1, ← hL7] at SF
      rw [← hwa, ← hT8]
      clear hwa hT8 hH1 hL7 h89 h78 h77 h56 h65 h65o hw4 hw1
      have EQ : Hid (∀ W, CM w A c cr os T6 T7 T8 L7 H1 bo A3 c3 V none A5 c5 A7 c7 W → Calls Try.prog 29 #[.agg #[.slice A7 V.cs.length c7, .int .i64 V.at', .bool V.stop], .agg #[.slice A3 V.cs.length c3, .int .i64 V.at', .bool V.stop]] W fun e w' => e = .returned (.bool true) ∧ Below W.heap.size W w') := fun W s =>
        callEqCoreT A7 A3 c7 c3 V W W.heap.size (Nat.le_refl _) hVl (s.r8.mono (by have := (Array.getElem?_eq_some_iff.1 s.st.k8).1; omega)) (s.st.r6.mono (by have := (Array.getElem?_eq_some_iff.1 s.st.k6).1; omega))
      obtain ⟨a0, a1, a2, _, _, _, _⟩ := cell3 SF.out.cm.st.k8
      obtain ⟨g0, g1, g2, _, _, _, _⟩ := cell3 SF.out.cm.st.k6
      go_wp2_with fail
      refine (EQ.out wa SF.out.cm).mono ?_
      rintro e wb ⟨rfl, hbe⟩
      have S9 := Lib.hid (SF.out.keep hbe)
      clear hbe a0 a1 a2 g0 g1 g2 SF
      have Bd := Lib.hid S9.out.cm.st.bel.drew
      have XQ : Hid (∀ W (A' : Option Addr) (c' : Nat), Rd eInt W W.heap.size A' cr.cs → CF w A c cr os T6 T7 T8 L7 H1 bo A3 c3 V none A5 c5 A7 c7 W → Calls Try.prog 29 #[.agg #[.slice A5 cr.cs.length c5, .int .i64 cr.at', .bool cr.stop], .agg #[.slice A' cr.cs.length c', .int .i64 cr.at', .bool cr.stop]] W fun e w' => e = .returned (.bool true) ∧ Below W.heap.size W w') := fun W A' c' hu s =>
        callEqCoreT A5 A' c5 c' cr W W.heap.size (Nat.le_refl _) hl (s.x7.mono (by have := (Array.getElem?_eq_some_iff.1 s.k7).1; omega)) hu
      obtain ⟨x0, x1, x2, _, _, _, _⟩ := cell3 S9.out.cm.st.par
      obtain ⟨y0, y1, y2, _, _, _, _⟩ := cell3 S9.out.k7
      go_upto_region 14 with (fail)
      go_region_held3 (fun w' => (w'.cell? ⟨w.heap.size, 0, none⟩ = some (.slice A cr.cs.length c) ∧ w'.cell? ⟨w.heap.size, 1, none⟩ = some (.int .i64 cr.at') ∧ w'.cell? ⟨w.heap.size, 2, none⟩ = some (.bool cr.stop)) ∧ (w'.cell? ⟨T7, 0, none⟩ = some (.slice A5 cr.cs.length c5) ∧ w'.cell? ⟨T7, 1, none⟩ = some (.int .i64 cr.at') ∧ w'.cell? ⟨T7, 2, none⟩ = some (.bool cr.stop))) (first | exact ⟨⟨x0, x1, x2⟩, ⟨y0, y1, y2⟩⟩ | (refine ⟨⟨?_, ?_, ?_⟩, ⟨?_, ?_, ?_⟩⟩ <;> assumption) | go_keep)
        (first
          | (go_at_call 27; refine (HT.out wb.drew Bd.out).mono ?_; rintro e wc ⟨Ac, cc, rfl, hoc, _, hbe⟩; have HRA := Lib.hid hoc.rd; have HBa := Lib.hid ((below_drew (Below.refl wb.heap.size wb)).trans hbe); clear hoc hbe; obtain ⟨m0, m1, m2, _, _, _, _⟩ := cell3 (blkc S9.out.cm.st.par HBa.out); obtain ⟨k0, k1, k2, _, _, _, _⟩ := cell3 (blkc S9.out.k7 HBa.out))
          | (go_at_call 29; refine (XQ.out wc Ac cc HRA.out (S9.out.keep HBa.out)).mono ?_; rintro e wd ⟨rfl, hbe⟩; have SB := Lib.hid (S9.out.keep (bel_trans HBa.out hbe)); clear hbe; obtain ⟨o0, o1, o2, _, _, _, _⟩ := cell3 SB.out.cm.st.par; obtain ⟨q0, q1, q2, _, _, _, _⟩ := cell3 SB.out.k7))
      clear XQ Bd S9 HRA HBa x0 x1 x2 y0 y1 y2
      try clear m0 m1 m2 k0 k1 k2
      try clear o0 o1 o2 q0 q1 q2
      go_wp2_with fail
      refine (HTO.out wd SB.out.cm.st.bel).mono ?_
      rintro e we ⟨rfl, hoe, hbe⟩
      have SE := Lib.hid (SB.out.keep hbe)
      have CO := Lib.hid (callEqOrderST (some ⟨bo, 0, none⟩) (some ⟨wd.heap.size, 0, none⟩) os.length os.length os we we.heap.size (Nat.le_refl _) hlo (SE.out.xo.mono (by have h := SE.out.cm.st.ord; have := (Array.getElem?_eq_some_iff.1 SE.out.cm.st.k8).1; omega)) hoe.rd)
      clear hoe hbe SB
      go_wp2_with fail
      refine CO.out.mono ?_
      rintro e wf ⟨rfl, hbe⟩
      have SFf := Lib.hid (SE.out.keep hbe)
      clear hbe SE CO
      have hT7f : T7 < wf.heap.size := (Array.getElem?_eq_some_iff.1 SFf.out.k7).1
      have CMc := Lib.hid (callMarkCoreW A5 cr.cs.length c5 cr.at' cr.stop 1 L7 T7 wf (by omega) (by omega) hl (by omega) SFf.out.w7)
      clear hT7f
      obtain ⟨y0, y1, y2, _, _, _, _⟩ := cell3 SFf.out.k7
      go_wp2_with fail
      refine CMc.out.mono ?_
      rintro e wg ⟨rfl, u, hbu, hmk⟩
      have SM := Lib.hid ((SFf.out.cm.keep hbu).mark (hmk.wide (Nat.le_refl _) (by have := SFf.out.cm.st.ord; omega)))
      clear hbu hmk CMc SFf y0 y1 y2
      obtain ⟨m1, hm1⟩ : ∃ m1, m1 = (1 : Int) + (cr.cs.length : Int) := ⟨_, rfl⟩
      have hm1b : 0 ≤ m1 ∧ m1 ≤ 2000000 := by omega
      rw [← hm1]
      clear hm1
      have CMo := Lib.hid (callMarkOrderS (some ⟨bo, 0, none⟩) os.length os.length m1 L7 H1 wg hm1b.1 (by omega) hlo SM.out.wo)
      go_wp2_with fail
      refine CMo.out.mono ?_
      rintro e wh ⟨rfl, hmk⟩
      have SN := Lib.hid (SM.out.mark hmk)
      have hdk : decide (m1 + 3 * (os.length : Int) < 0) = false := decide_eq_false (by omega)
      clear hmk SM CMo
      obtain ⟨m2, hm2⟩ : ∃ m2, m2 = m1 + 3 * (os.length : Int) := ⟨_, rfl⟩
      rw [← hm2] at hdk ⊢
      clear hm2 hm1b
      obtain ⟨a0, a1, a2, _, _, _, _⟩ := cell3 SN.out.st.k8
      obtain ⟨g0, g1, g2, _, _, _, _⟩ := cell3 SN.out.st.k6
      go_wp2_with fail
      refine (EQ.out wh SN.out).mono ?_
      rintro e wi ⟨rfl, hbe⟩
      have SD := Lib.hid (SN.out.keep hbe)
      clear hbe SN a0 a1 a2 g0 g1 g2
      obtain ⟨a0, a1, a2, _, _, _, _⟩ := cell3 SD.out.st.k8
      have HCX := Lib.hid (callMarkCore A7 c7 V.cs V.at' V.stop 1 H1 T8 wi (by have := (Array.getElem?_eq_some_iff.1 SD.out.st.k8).1; omega) (by omega) (by omega) hVl SD.out.o8 SD.out.r8)
      go_wp2_with fail
      refine HCX.out.mono ?_
      rintro e wk ⟨rfl, ⟨u, hbu, hmk⟩, hok⟩
      have SK := Lib.hid (SD.out.st.mark hbu hmk)
      have RK := Lib.hid hok.rdN
      have HLD : Hid (∀ W, Below wk.heap.size wk W → Calls Try.prog 33 #[.agg #[.slice A7 V.cs.length c7, .int .i64 V.at', .bool V.stop], .int .i64 1] W fun e w' => e = .returned (.int .i64 (1 + (V.cs.length : Int))) ∧ Below W.heap.size W w') := fun W hW =>
        callHeldCore A7 c7 V.cs.length V.at' V.stop 1 W wk.heap.size hW.size (by omega) (by omega) hVl (RK.out.below hW)
      have hds : decide ((1 : Int) + (V.cs.length : Int) < 0) = false := decide_eq_false (by omega)
      have hdn : ((1 : Int) + (V.cs.length : Int) != (1 : Int) + (V.cs.length : Int)) = false := by simp
      obtain ⟨st, hst⟩ : ∃ st, st = (1 : Int) + (V.cs.length : Int) := ⟨_, rfl⟩
      rw [← hst] at HLD hds hdn ⊢
      clear hbu hmk hok HCX SD a0 a1 a2 hst RK
      obtain ⟨a0, a1, a2, _, _, _, _⟩ := cell3 SK.out.k8
      go_wp2_with fail
      refine (HLD.out wk (Below.refl _ _)).mono ?_
      rintro e wl ⟨rfl, hbe⟩
      have HEl := Lib.hid hbe
      have SL := Lib.hid (SK.out.keep hbe)
      clear hbe a0 a1 a2 SK
      obtain ⟨x0, x1, x2, _, _, _, _⟩ := cell3 SL.out.par
      go_wp2_with fail
      refine (HT.out wl SL.out.bel).mono ?_
      rintro e wm ⟨Am, cm, rfl, hom, hcm, hbe⟩
      have Rm := Lib.hid hom.rd
      have HEm := Lib.hid (bel_trans HEl.out hbe)
      have SM := Lib.hid (SL.out.keep hbe)
      clear hom hbe SL x0 x1 x2 HEl
      go_wp2_with fail
      refine (HTO.out wm SM.out.bel).mono ?_
      rintro e wn ⟨rfl, hon, hbe⟩
      have HIn := Lib.hid (HIM.out wn Am _ cm hcm (Rm.out.next hbe) hon.rd)
      have HEn := Lib.hid (bel_trans HEm.out hbe)
      have SN := Lib.hid (SM.out.keep hbe)
      clear hon hbe SM HEm Rm
      go_wp2_with fail
      refine HIn.out.mono ?_
      rintro e wo ⟨A9, c9, rfl, ho9, hbe⟩
      have hba := (below1 wo (.cells #[.slice A9 V.cs.length c9, .int .i64 V.at', .bool V.stop] 33))
      have HEo := Lib.hid (bel_trans HEn.out (bel_trans hbe hba))
      have SI := Lib.hid (SN.out.keep (bel_trans hbe hba))
      have N9 := Lib.hid (heap_alloc_new wo (.cells #[.slice A9 V.cs.length c9, .int .i64 V.at', .bool V.stop] 33))
      have N9o : Hid (∀ (q : Ord3), none = some q → (wo.alloc (.cells #[.slice A9 V.cs.length c9, .int .i64 V.at', .bool V.stop] 33)).heap[wo.heap.size + 1]? = some (.cells #[.int .i64 q.op, .int .i64 q.a, .int .i64 q.b] 41 (0, 0))) := (fun q hq => by cases hq)
      have R9 : Hid (Rd eInt (wo.alloc (.cells #[.slice A9 V.cs.length c9, .int .i64 V.at', .bool V.stop] 33)) wo.heap.size A9 V.cs) := ho9.rd.below hba
      clear ho9 hbe hba SN HEn HIn
      go_upto_region 32 with (fail)
      obtain ⟨wp', hwp⟩ : ∃ wp', wp' = (wo.alloc (.cells #[.slice A9 V.cs.length c9, .int .i64 V.at', .bool V.stop] 33)) := ⟨_, rfl⟩
      obtain ⟨T9, hT9⟩ : ∃ T9, T9 = wo.heap.size := ⟨_, rfl⟩
      have hhp : T9 ≤ wp'.heap.size := by rw [hwp, hT9]; simp
      rw [← hwp] at HEo SI N9 N9o R9 ⊢
      rw [← hT9] at N9 N9o R9 ⊢
      clear hwp hT9
      obtain ⟨a0, a1, a2, _, _, _, _⟩ := cell3 N9.out
      obtain ⟨g0, g1, g2, _, _, _, _⟩ := cell3 SI.out.k6
      have CQ := Lib.hid (callEqCoreT A9 A3 c9 c3 V wp' wp'.heap.size (Nat.le_refl _) hVl (R9.out.mono hhp) (SI.out.r6.mono (by have := (Array.getElem?_eq_some_iff.1 SI.out.k6).1; omega)))
      clear hhp
      go_wp2_with fail
      refine CQ.out.mono ?_
      rintro e wq ⟨rfl, hbe⟩
      have HEq := Lib.hid (bel_trans HEo.out hbe)
      have SJ := Lib.hid (SI.out.keep hbe)
      have N9q : Hid (∀ (q : Ord3), none = some q → wq.heap[T9 + 1]? = some (.cells #[.int .i64 q.op, .int .i64 q.a, .int .i64 q.b] 41 (0, 0))) := fun q hq => blkc (N9o.out q hq) hbe
      clear hbe CQ SI HEo a0 a1 a2 g0 g1 g2 N9 R9 N9o
      obtain ⟨a0, a1, a2, _, _, _, _⟩ := cell3 SJ.out.k8
      go_wp2_with fail
      refine (HLD.out wq HEq.out).mono ?_
      rintro e wr' ⟨rfl, hbe⟩
      have HFIN := Lib.hid (bel_trans SJ.out.bel hbe)
      clear hbe
      go_wp2
      go_ret
      exact ⟨rfl, HFIN.out⟩
    · have E4 := E3.out.trans (if_neg h1)
      rw [E4]
      clear E3 E4 h1
      go_wp2
      go_ret
      exact ⟨rfl, HB1.out⟩
  · have E2 := E1.out.trans (if_neg h0)
    rw [E2]
    clear E1 E2
    go_wp2
    go_ret
    exact ⟨rfl, HB1.out⟩
set_option maxRecDepth 100000 in
set_option maxHeartbeats 6400000 in
theorem walkFnExactStepCore (A : Option Addr) (c : Nat) (cr : Cor) (Ao : Option Addr) (co : Nat) (os : List Ord3) (n2 n3 : Int) (w : World) (hn : cr.cs.length ≤ 9223372036854775807) (hr : Rd eInt w w.heap.size A cr.cs) (hno : os.length ≤ 9223372036854775807) (hro : Rd eOrd w w.heap.size Ao os) (_h2 : (Lit.int .i64 n2).wf = true) (_h3 : (Lit.int .i64 n3).wf = true) :
    Calls Try.prog 12 #[.agg #[.slice A cr.cs.length c, .int .i64 cr.at', .bool cr.stop], .slice Ao os.length co, .int .i64 n2, .int .i64 n3] w fun e w' => e = .returned (.bool true) ∧ Below w.heap.size w w' := by
  have HV0 := Lib.hid (below1 w (.cells #[.slice A cr.cs.length c, .int .i64 cr.at', .bool cr.stop] 43))
  have K0 := Lib.hid (heap_alloc_new w (.cells #[.slice A cr.cs.length c, .int .i64 cr.at', .bool cr.stop] 43))
  have HZ := Lib.hid (callSzCore A c cr 1048576 (w.alloc (.cells #[.slice A cr.cs.length c, .int .i64 cr.at', .bool cr.stop] 43)) hn (by omega) (by omega))
  have HR := Lib.hid hr
  have HRO := Lib.hid hro
  have E1 : Hid (szF cr.cs.length 1048576 = if (cr.cs.length : Int) ≤ 1048576 then (1048576 : Int) - (cr.cs.length : Int) else (-1 : Int)) := rfl
  clear hr hro
  obtain ⟨x0, x1, x2, _, _, _, x6⟩ := cell3 K0.out
  go_enter Try.func12, Try.ntmps12
  go_wp2_with fail
  refine HZ.out.mono ?_
  rintro e w1 ⟨rfl, hb1⟩
  have HB1 := Lib.hid (bel_trans HV0.out hb1)
  have K1 := Lib.hid (blkc K0.out hb1)
  have hw1 : w.heap.size < w1.heap.size := (cell3 K1.out).2.2.2.2.2.2
  clear HZ hb1 K0 HV0 x0 x1 x2 x6
  by_cases h0 : (cr.cs.length : Int) ≤ 1048576
  · have E2 := E1.out.trans (if_pos h0)
    rw [E2]
    have hl : cr.cs.length ≤ 1048576 := by omega
    have hd : decide (1048576 - (cr.cs.length : Int) < 0) = false := decide_eq_false (by omega)
    have HZ2 := Lib.hid (callSzOrderS Ao co os.length (1048576 - (cr.cs.length : Int)) w1 hno (by omega) (by omega))
    have E3 : Hid (szF os.length (1048576 - (cr.cs.length : Int)) = if (os.length : Int) ≤ 1048576 - (cr.cs.length : Int) then (1048576 : Int) - (cr.cs.length : Int) - (os.length : Int) else (-1 : Int)) := rfl
    clear E1 E2
    go_wp2_with fail
    refine HZ2.out.mono ?_
    rintro e w1' ⟨rfl, rfl⟩
    clear HZ2
    by_cases h1 : (os.length : Int) ≤ 1048576 - (cr.cs.length : Int)
    · have E4 := E3.out.trans (if_pos h1)
      rw [E4]
      have hlo : os.length ≤ 1048576 := by omega
      have hd2 : decide (1048576 - (cr.cs.length : Int) - (os.length : Int) < 0) = false := decide_eq_false (by omega)
      clear E3 E4 h0 h1
      have HT : Hid (∀ W, Below w.heap.size w W → Calls Try.prog 27 #[.agg #[.slice A cr.cs.length c, .int .i64 cr.at', .bool cr.stop]] W (CorRes W cr)) := fun W hW => callToCore A c cr W W.heap.size (Nat.le_refl _) hl ((HR.out.below hW).mono hW.size)
      have HTO : Hid (∀ W, Below w.heap.size w W → Calls Try.prog 28 #[.slice Ao os.length co] W fun e w' => e = .returned (.slice (some ⟨W.heap.size, 0, none⟩) os.length os.length) ∧ Own eOrd 41 w' W.heap.size (.slice (some ⟨W.heap.size, 0, none⟩) os.length os.length) os ∧ Below W.heap.size W w') := fun W hW => callToOrderS Ao co os W W.heap.size (Nat.le_refl _) hlo ((HRO.out.below hW).mono hW.size)
      obtain ⟨V, o, hV⟩ : ∃ V o, (V, o) = stepRes cr os n2 n3 := ⟨_, _, rfl⟩
      have hVl : V.cs.length ≤ 1048576 := by have h := stepRes_len cr os n2 n3; rw [← hV] at h; exact Nat.le_trans h hl
      have HSM : Hid (∀ W (A' B' : Option Addr) (c' : Nat), Rd eInt W W.heap.size A' cr.cs → Rd eOrd W W.heap.size B' os → Calls Try.prog 43 #[.agg #[.slice A' cr.cs.length c', .int .i64 cr.at', .bool cr.stop], .slice B' os.length os.length, .int .i64 n2, .int .i64 n3] W fun e w' => ∃ A' c', e = .returned (.tuple #[.agg #[.slice A' V.cs.length c', .int .i64 V.at', .bool V.stop], .agg #[.int .i64 o.op, .int .i64 o.a, .int .i64 o.b]]) ∧ Own eInt 3 w' W.heap.size (.slice A' V.cs.length c') V.cs ∧ Below W.heap.size W w') := fun W A' B' c' h1 h2 => by
        have h := callSStepCore A' c' cr B' os.length os n2 n3 W W.heap.size (Nat.le_refl _) hl hlo h1 h2
        rw [← hV] at h
        refine h.mono ?_
        rintro e w' ⟨A2, c2, rfl, ho, _, hb⟩
        exact ⟨A2, c2, rfl, ho, hb⟩
      have HIM : Hid (∀ W (A' B' : Option Addr) (c' : Nat), cr.cs.length ≤ c' → Rd eInt W W.heap.size A' cr.cs → Rd eOrd W W.heap.size B' os → Calls Try.prog 42 #[.agg #[.slice A' cr.cs.length c', .int .i64 cr.at', .bool cr.stop], .slice B' os.length os.length, .int .i64 n2, .int .i64 n3] W fun e w' => ∃ A' c', e = .returned (.tuple #[.agg #[.slice A' V.cs.length c', .int .i64 V.at', .bool V.stop], .agg #[.int .i64 o.op, .int .i64 o.a, .int .i64 o.b]]) ∧ Own eInt 3 w' W.heap.size (.slice A' V.cs.length c') V.cs ∧ Below W.heap.size W w') := fun W A' B' c' hc h1 h2 => by
        have h := callStepCore A' c' cr B' os.length os n2 n3 W W.heap.size (Nat.le_refl _) hc hl hlo h1 h2
        rw [← hV] at h
        refine h.mono ?_
        rintro e w' ⟨A2, c2, rfl, ho, _, hb⟩
        exact ⟨A2, c2, rfl, ho, hb⟩
      clear hV HR HRO
      obtain ⟨x0, x1, x2, _, _, _, x6⟩ := cell3 K1.out
      go_wp2_with fail
      refine (HT.out w1 HB1.out).mono ?_
      rintro e w2 ⟨A2, c2, rfl, ho2, hc2, hbe⟩
      have R2 := Lib.hid ho2.rd
      have HB2 := Lib.hid (bel_trans HB1.out hbe)
      have K2 := Lib.hid (blkc K1.out hbe)
      have hw2 : w.heap.size < w2.heap.size := by have := hbe.size; omega
      clear ho2 hbe x0 x1 x2 x6 K1 HB1
      go_wp2_with fail
      refine (HTO.out w2 HB2.out).mono ?_
      rintro e w3 ⟨rfl, ho3, hbe⟩
      have HB3 := Lib.hid (bel_trans HB2.out hbe)
      have HC3 := Lib.hid (HSM.out w3 A2 _ c2 (R2.out.next hbe) ho3.rd)
      have K3 := Lib.hid (blkc K2.out hbe)
      have hw3 : w.heap.size < w3.heap.size := by have := hbe.size; omega
      clear ho3 hbe HSM R2 K2 HB2 hw2
      go_wp2_with fail
      refine HC3.out.mono ?_
      rintro e w4 ⟨A3, c3, rfl, ho4, hbe⟩
      have hw4 : w.heap.size < w4.heap.size := by have := hbe.size; omega
      have HBa := Lib.hid (below2 w4 (.cells #[.slice A3 V.cs.length c3, .int .i64 V.at', .bool V.stop] 33) (.cells #[.int .i64 o.op, .int .i64 o.a, .int .i64 o.b] 41))
      have HB5 := Lib.hid (bel_trans (bel_trans HB3.out hbe) HBa.out)
      have K5 := Lib.hid (blkc (blkc K3.out hbe) HBa.out)
      have N6 := Lib.hid (alloc_at0 w4 (.cells #[.slice A3 V.cs.length c3, .int .i64 V.at', .bool V.stop] 33) (.cells #[.int .i64 o.op, .int .i64 o.a, .int .i64 o.b] 41))
      have N6o : Hid (∀ (q : Ord3), (some o) = some q → ((w4.alloc (.cells #[.slice A3 V.cs.length c3, .int .i64 V.at', .bool V.stop] 33)).alloc (.cells #[.int .i64 o.op, .int .i64 o.a, .int .i64 o.b] 41)).heap[w4.heap.size + 1]? = some (.cells #[.int .i64 q.op, .int .i64 q.a, .int .i64 q.b] 41 (0, 0))) := (fun q hq => by injection hq with hq; subst hq; exact alloc_at1 w4 (.cells #[.slice A3 V.cs.length c3, .int .i64 V.at', .bool V.stop] 33) (.cells #[.int .i64 o.op, .int .i64 o.a, .int .i64 o.b] 41))
      have R6 : Hid (Rd eInt ((w4.alloc (.cells #[.slice A3 V.cs.length c3, .int .i64 V.at', .bool V.stop] 33)).alloc (.cells #[.int .i64 o.op, .int .i64 o.a, .int .i64 o.b] 41)) w4.heap.size A3 V.cs) := ho4.rd.below HBa.out
      clear ho4 hbe HB3 HC3 K3 hw3 HBa
      go_upto_region 9 with (fail)
      obtain ⟨w5, hw5⟩ : ∃ w5, w5 = ((w4.alloc (.cells #[.slice A3 V.cs.length c3, .int .i64 V.at', .bool V.stop] 33)).alloc (.cells #[.int .i64 o.op, .int .i64 o.a, .int .i64 o.b] 41)) := ⟨_, rfl⟩
      obtain ⟨T6, hT6⟩ : ∃ T6, T6 = w4.heap.size := ⟨_, rfl⟩
      have h65 : T6 < w5.heap.size := by rw [hw5, hT6]; simp; omega
      have h65o : Hid (∀ (q : Ord3), (some o) = some q → T6 + 1 < w5.heap.size) := fun q hq => by rw [hw5, hT6]; simp
      rw [← hw5] at HB5 K5 N6 N6o R6 ⊢
      rw [← hT6] at N6 N6o R6 hw4 ⊢
      clear hw5 hT6
      obtain ⟨x0, x1, x2, _, _, _, x6⟩ := cell3 K5.out
      go_wp2_with fail
      refine (HT.out w5 HB5.out).mono ?_
      rintro e w6 ⟨A5, c5, rfl, ho6, hc5, hbe⟩
      have hb7 := bel_trans hbe (below1 w6 (.cells #[.slice A5 cr.cs.length c5, .int .i64 cr.at', .bool cr.stop] 33))
      have h56 := hbe.size
      have HB7 := Lib.hid (bel_trans HB5.out hb7)
      have K7 := Lib.hid (blkc K5.out hb7)
      have N67 := Lib.hid (blkc N6.out hb7)
      have N67o : Hid (∀ (q : Ord3), (some o) = some q → (w6.alloc (.cells #[.slice A5 cr.cs.length c5, .int .i64 cr.at', .bool cr.stop] 33)).heap[T6 + 1]? = some (.cells #[.int .i64 q.op, .int .i64 q.a, .int .i64 q.b] 41 (0, 0))) := fun q hq => blkc (N6o.out q hq) hb7
      have R67 : Hid (Rd eInt (w6.alloc (.cells #[.slice A5 cr.cs.length c5, .int .i64 cr.at', .bool cr.stop] 33)) T6 A3 V.cs) := R6.out.below (hb7.mono (by omega))
      have N7 := Lib.hid (heap_alloc_new w6 (.cells #[.slice A5 cr.cs.length c5, .int .i64 cr.at', .bool cr.stop] 33))
      have X7 : Hid (Rd eInt (w6.alloc (.cells #[.slice A5 cr.cs.length c5, .int .i64 cr.at', .bool cr.stop] 33)) w6.heap.size A5 cr.cs) := ho6.rd.below (below1 w6 _)
      have W7 : Hid (Wr 1 (w6.alloc (.cells #[.slice A5 cr.cs.length c5, .int .i64 cr.at', .bool cr.stop] 33)) w5.heap.size w6.heap.size A5 cr.cs.length) := (ho6.wr).below (below1 w6 _) (Nat.le_refl _)
      clear ho6 hbe hb7 x0 x1 x2 x6 K5 N6 N6o R6 HB5
      go_upto_region 10 with (fail)
      obtain ⟨w7, hw7⟩ : ∃ w7, w7 = w6.alloc (.cells #[.slice A5 cr.cs.length c5, .int .i64 cr.at', .bool cr.stop] 33) := ⟨_, rfl⟩
      obtain ⟨T7, hT7⟩ : ∃ T7, T7 = w6.heap.size := ⟨_, rfl⟩
      have h77 : T7 < w7.heap.size := by rw [hw7, hT7]; simp
      rw [← hw7] at HB7 K7 N67 N67o R67 N7 X7 W7 ⊢
      rw [← hT7] at N7 X7 W7 h56 ⊢
      clear hw7 hT7
      go_wp2_with fail
      refine (HTO.out w7 HB7.out).mono ?_
      rintro e w8 ⟨rfl, ho8, hbe⟩
      have h78 := hbe.size
      have HB8 := Lib.hid (bel_trans HB7.out hbe)
      have K8 := Lib.hid (blkc K7.out hbe)
      have N68 := Lib.hid (blkc N67.out hbe)
      have N68o : Hid (∀ (q : Ord3), (some o) = some q → w8.heap[T6 + 1]? = some (.cells #[.int .i64 q.op, .int .i64 q.a, .int .i64 q.b] 41 (0, 0))) := fun q hq => blkc (N67o.out q hq) hbe
      have R68 : Hid (Rd eInt w8 T6 A3 V.cs) := R67.out.below (hbe.mono (by omega))
      have N78 := Lib.hid (blkc N7.out hbe)
      have X78 : Hid (Rd eInt w8 T7 A5 cr.cs) := X7.out.below (hbe.mono (by omega))
      have W78 : Hid (Wr 1 w8 w5.heap.size T7 A5 cr.cs.length) := W7.out.below hbe (by omega)
      obtain ⟨bo, hbo⟩ : ∃ bo, bo = w7.heap.size := ⟨_, rfl⟩
      have XO : Hid (Rd eOrd w8 w8.heap.size (some ⟨bo, 0, none⟩) os) := by rw [hbo]; exact ho8.rd
      have WO : Hid (Wr 3 w8 w5.heap.size w8.heap.size (some ⟨bo, 0, none⟩) os.length) := by rw [hbo]; exact (ho8.wr).lo (by omega)
      rw [← hbo]
      clear ho8 hbe K7 N67 N67o R67 N7 X7 W7 HB7 hbo
      obtain ⟨y0, y1, y2, _, _, _, _⟩ := cell3 N78.out
      go_wp2_with fail
      refine (HIM.out w8 A5 _ c5 hc5 (X78.out.mono (by omega)) XO.out).mono ?_
      rintro e w9 ⟨A7, c7, rfl, ho9, hbe⟩
      have h89 := hbe.size
      have SF : Hid (CF w A c cr os T6 T7 w9.heap.size w5.heap.size w8.heap.size bo A3 c3 V (some o) A5 c5 A7 c7 ((w9.alloc (.cells #[.slice A7 V.cs.length c7, .int .i64 V.at', .bool V.stop] 33)).alloc (.cells #[.int .i64 o.op, .int .i64 o.a, .int .i64 o.b] 41))) := by
        have hba := (below2 w9 (.cells #[.slice A7 V.cs.length c7, .int .i64 V.at', .bool V.stop] 33) (.cells #[.int .i64 o.op, .int .i64 o.a, .int .i64 o.b] 41))
        have hb8 := bel_trans hbe hba
        exact ⟨⟨⟨bel_trans HB8.out hb8, blkc K8.out hb8, blkc N68.out hb8, (alloc_at0 w9 (.cells #[.slice A7 V.cs.length c7, .int .i64 V.at', .bool V.stop] 33) (.cells #[.int .i64 o.op, .int .i64 o.a, .int .i64 o.b] 41)), fun q hq => blkc (N68o.out q hq) hb8, (fun q hq => by injection hq with hq; subst hq; exact alloc_at1 w9 (.cells #[.slice A7 V.cs.length c7, .int .i64 V.at', .bool V.stop] 33) (.cells #[.int .i64 o.op, .int .i64 o.a, .int .i64 o.b] 41)), R68.out.below (hb8.mono (by omega)), by omega, by omega, h65o.out, by omega, by omega, h89⟩, ho9.next hba, ho9.rd.below hba, WO.out.below hb8 (Nat.le_refl _)⟩, blkc N78.out hb8, X78.out.below (hb8.mono (by omega)), W78.out.below hb8 (by omega), XO.out.below hb8⟩
      clear ho9 hbe y0 y1 y2 K8 N68 N68o R68 N78 X78 W78 XO WO HB8
      go_upto_region 12 with (fail)
      obtain ⟨wa, hwa⟩ : ∃ wa, wa = ((w9.alloc (.cells #[.slice A7 V.cs.length c7, .int .i64 V.at', .bool V.stop] 33)).alloc (.cells #[.int .i64 o.op, .int .i64 o.a, .int .i64 o.b] 41)) := ⟨_, rfl⟩
      obtain ⟨T8, hT8⟩ : ∃ T8, T8 = w9.heap.size := ⟨_, rfl⟩
      obtain ⟨H1, hH1⟩ : ∃ H1, H1 = w8.heap.size := ⟨_, rfl⟩
      obtain ⟨L7, hL7⟩ : ∃ L7, L7 = w5.heap.size := ⟨_, rfl⟩
      rw [← hwa, ← hT8, ← hH1, ← hL7] at SF
      rw [← hwa, ← hT8]
      clear hwa hT8 hH1 hL7 h89 h78 h77 h56 h65 h65o hw4 hw1
      have EQ : Hid (∀ W, CM w A c cr os T6 T7 T8 L7 H1 bo A3 c3 V (some o) A5 c5 A7 c7 W → Calls Try.prog 29 #[.agg #[.slice A7 V.cs.length c7, .int .i64 V.at', .bool V.stop], .agg #[.slice A3 V.cs.length c3, .int .i64 V.at', .bool V.stop]] W fun e w' => e = .returned (.bool true) ∧ Below W.heap.size W w') := fun W s =>
        callEqCoreT A7 A3 c7 c3 V W W.heap.size (Nat.le_refl _) hVl (s.r8.mono (by have := (Array.getElem?_eq_some_iff.1 s.st.k8).1; omega)) (s.st.r6.mono (by have := (Array.getElem?_eq_some_iff.1 s.st.k6).1; omega))
      obtain ⟨a0, a1, a2, _, _, _, _⟩ := cell3 SF.out.cm.st.k8
      obtain ⟨g0, g1, g2, _, _, _, _⟩ := cell3 SF.out.cm.st.k6
      go_wp2_with fail
      refine (EQ.out wa SF.out.cm).mono ?_
      rintro e wb ⟨rfl, hbe⟩
      have S9 := Lib.hid (SF.out.keep hbe)
      clear hbe a0 a1 a2 g0 g1 g2 SF
      obtain ⟨a0, a1, a2, _, _, _, _⟩ := cell3 (S9.out.cm.st.k8o o rfl)
      obtain ⟨g0, g1, g2, _, _, _, _⟩ := cell3 (S9.out.cm.st.k6o o rfl)
      go_wp2_with fail
      refine (callEqOrderT o wb).mono ?_
      rintro e wb' ⟨rfl, hbe⟩
      have S9' := Lib.hid (S9.out.keep hbe)
      clear S9
      have S9 := S9'
      clear S9'
      clear hbe a0 a1 a2 g0 g1 g2
      have Bd := Lib.hid S9.out.cm.st.bel.drew
      have XQ : Hid (∀ W (A' : Option Addr) (c' : Nat), Rd eInt W W.heap.size A' cr.cs → CF w A c cr os T6 T7 T8 L7 H1 bo A3 c3 V (some o) A5 c5 A7 c7 W → Calls Try.prog 29 #[.agg #[.slice A5 cr.cs.length c5, .int .i64 cr.at', .bool cr.stop], .agg #[.slice A' cr.cs.length c', .int .i64 cr.at', .bool cr.stop]] W fun e w' => e = .returned (.bool true) ∧ Below W.heap.size W w') := fun W A' c' hu s =>
        callEqCoreT A5 A' c5 c' cr W W.heap.size (Nat.le_refl _) hl (s.x7.mono (by have := (Array.getElem?_eq_some_iff.1 s.k7).1; omega)) hu
      obtain ⟨x0, x1, x2, _, _, _, _⟩ := cell3 S9.out.cm.st.par
      obtain ⟨y0, y1, y2, _, _, _, _⟩ := cell3 S9.out.k7
      go_upto_region 14 with (fail)
      go_region_held3 (fun w' => (w'.cell? ⟨w.heap.size, 0, none⟩ = some (.slice A cr.cs.length c) ∧ w'.cell? ⟨w.heap.size, 1, none⟩ = some (.int .i64 cr.at') ∧ w'.cell? ⟨w.heap.size, 2, none⟩ = some (.bool cr.stop)) ∧ (w'.cell? ⟨T7, 0, none⟩ = some (.slice A5 cr.cs.length c5) ∧ w'.cell? ⟨T7, 1, none⟩ = some (.int .i64 cr.at') ∧ w'.cell? ⟨T7, 2, none⟩ = some (.bool cr.stop))) (first | exact ⟨⟨x0, x1, x2⟩, ⟨y0, y1, y2⟩⟩ | (refine ⟨⟨?_, ?_, ?_⟩, ⟨?_, ?_, ?_⟩⟩ <;> assumption) | go_keep)
        (first
          | (go_at_call 27; refine (HT.out wb'.drew Bd.out).mono ?_; rintro e wc ⟨Ac, cc, rfl, hoc, _, hbe⟩; have HRA := Lib.hid hoc.rd; have HBa := Lib.hid ((below_drew (Below.refl wb'.heap.size wb')).trans hbe); clear hoc hbe; obtain ⟨m0, m1, m2, _, _, _, _⟩ := cell3 (blkc S9.out.cm.st.par HBa.out); obtain ⟨k0, k1, k2, _, _, _, _⟩ := cell3 (blkc S9.out.k7 HBa.out))
          | (go_at_call 29; refine (XQ.out wc Ac cc HRA.out (S9.out.keep HBa.out)).mono ?_; rintro e wd ⟨rfl, hbe⟩; have SB := Lib.hid (S9.out.keep (bel_trans HBa.out hbe)); clear hbe; obtain ⟨o0, o1, o2, _, _, _, _⟩ := cell3 SB.out.cm.st.par; obtain ⟨q0, q1, q2, _, _, _, _⟩ := cell3 SB.out.k7))
      clear XQ Bd S9 HRA HBa x0 x1 x2 y0 y1 y2
      try clear m0 m1 m2 k0 k1 k2
      try clear o0 o1 o2 q0 q1 q2
      go_wp2_with fail
      refine (HTO.out wd SB.out.cm.st.bel).mono ?_
      rintro e we ⟨rfl, hoe, hbe⟩
      have SE := Lib.hid (SB.out.keep hbe)
      have CO := Lib.hid (callEqOrderST (some ⟨bo, 0, none⟩) (some ⟨wd.heap.size, 0, none⟩) os.length os.length os we we.heap.size (Nat.le_refl _) hlo (SE.out.xo.mono (by have h := SE.out.cm.st.ord; have := (Array.getElem?_eq_some_iff.1 SE.out.cm.st.k8).1; omega)) hoe.rd)
      clear hoe hbe SB
      go_wp2_with fail
      refine CO.out.mono ?_
      rintro e wf ⟨rfl, hbe⟩
      have SFf := Lib.hid (SE.out.keep hbe)
      clear hbe SE CO
      have hT7f : T7 < wf.heap.size := (Array.getElem?_eq_some_iff.1 SFf.out.k7).1
      have CMc := Lib.hid (callMarkCoreW A5 cr.cs.length c5 cr.at' cr.stop 1 L7 T7 wf (by omega) (by omega) hl (by omega) SFf.out.w7)
      clear hT7f
      obtain ⟨y0, y1, y2, _, _, _, _⟩ := cell3 SFf.out.k7
      go_wp2_with fail
      refine CMc.out.mono ?_
      rintro e wg ⟨rfl, u, hbu, hmk⟩
      have SM := Lib.hid ((SFf.out.cm.keep hbu).mark (hmk.wide (Nat.le_refl _) (by have := SFf.out.cm.st.ord; omega)))
      clear hbu hmk CMc SFf y0 y1 y2
      obtain ⟨m1, hm1⟩ : ∃ m1, m1 = (1 : Int) + (cr.cs.length : Int) := ⟨_, rfl⟩
      have hm1b : 0 ≤ m1 ∧ m1 ≤ 2000000 := by omega
      rw [← hm1]
      clear hm1
      have CMo := Lib.hid (callMarkOrderS (some ⟨bo, 0, none⟩) os.length os.length m1 L7 H1 wg hm1b.1 (by omega) hlo SM.out.wo)
      go_wp2_with fail
      refine CMo.out.mono ?_
      rintro e wh ⟨rfl, hmk⟩
      have SN := Lib.hid (SM.out.mark hmk)
      have hdk : decide (m1 + 3 * (os.length : Int) < 0) = false := decide_eq_false (by omega)
      clear hmk SM CMo
      obtain ⟨m2, hm2⟩ : ∃ m2, m2 = m1 + 3 * (os.length : Int) := ⟨_, rfl⟩
      rw [← hm2] at hdk ⊢
      clear hm2 hm1b
      obtain ⟨a0, a1, a2, _, _, _, _⟩ := cell3 SN.out.st.k8
      obtain ⟨g0, g1, g2, _, _, _, _⟩ := cell3 SN.out.st.k6
      go_wp2_with fail
      refine (EQ.out wh SN.out).mono ?_
      rintro e wi ⟨rfl, hbe⟩
      have SD := Lib.hid (SN.out.keep hbe)
      clear hbe SN a0 a1 a2 g0 g1 g2
      obtain ⟨a0, a1, a2, _, _, _, _⟩ := cell3 (SD.out.st.k8o o rfl)
      obtain ⟨g0, g1, g2, _, _, _, _⟩ := cell3 (SD.out.st.k6o o rfl)
      go_wp2_with fail
      refine (callEqOrderT o wi).mono ?_
      rintro e wj ⟨rfl, hbe⟩
      have SD' := Lib.hid (SD.out.keep hbe)
      clear SD
      have SD := SD'
      clear SD'
      clear hbe a0 a1 a2 g0 g1 g2
      obtain ⟨a0, a1, a2, _, _, _, _⟩ := cell3 SD.out.st.k8
      have HCX := Lib.hid (callMarkCore A7 c7 V.cs V.at' V.stop 1 H1 T8 wj (by have := (Array.getElem?_eq_some_iff.1 SD.out.st.k8).1; omega) (by omega) (by omega) hVl SD.out.o8 SD.out.r8)
      go_wp2_with fail
      refine HCX.out.mono ?_
      rintro e wk ⟨rfl, ⟨u, hbu, hmk⟩, hok⟩
      have SK := Lib.hid (SD.out.st.mark hbu hmk)
      have RK := Lib.hid hok.rdN
      have HLD : Hid (∀ W, Below wk.heap.size wk W → Calls Try.prog 33 #[.agg #[.slice A7 V.cs.length c7, .int .i64 V.at', .bool V.stop], .int .i64 1] W fun e w' => e = .returned (.int .i64 (1 + (V.cs.length : Int))) ∧ Below W.heap.size W w') := fun W hW =>
        callHeldCore A7 c7 V.cs.length V.at' V.stop 1 W wk.heap.size hW.size (by omega) (by omega) hVl (RK.out.below hW)
      have hds : decide ((1 : Int) + (V.cs.length : Int) < 0) = false := decide_eq_false (by omega)
      have hdn : ((1 : Int) + (V.cs.length : Int) != (1 : Int) + (V.cs.length : Int)) = false := by simp
      obtain ⟨st, hst⟩ : ∃ st, st = (1 : Int) + (V.cs.length : Int) := ⟨_, rfl⟩
      rw [← hst] at HLD hds hdn ⊢
      clear hbu hmk hok HCX SD a0 a1 a2 hst RK
      obtain ⟨a0, a1, a2, _, _, _, _⟩ := cell3 SK.out.k8
      go_wp2_with fail
      refine (HLD.out wk (Below.refl _ _)).mono ?_
      rintro e wl ⟨rfl, hbe⟩
      have HEl := Lib.hid hbe
      have SL := Lib.hid (SK.out.keep hbe)
      clear hbe a0 a1 a2 SK
      obtain ⟨x0, x1, x2, _, _, _, _⟩ := cell3 SL.out.par
      go_wp2_with fail
      refine (HT.out wl SL.out.bel).mono ?_
      rintro e wm ⟨Am, cm, rfl, hom, hcm, hbe⟩
      have Rm := Lib.hid hom.rd
      have HEm := Lib.hid (bel_trans HEl.out hbe)
      have SM := Lib.hid (SL.out.keep hbe)
      clear hom hbe SL x0 x1 x2 HEl
      go_wp2_with fail
      refine (HTO.out wm SM.out.bel).mono ?_
      rintro e wn ⟨rfl, hon, hbe⟩
      have HIn := Lib.hid (HIM.out wn Am _ cm hcm (Rm.out.next hbe) hon.rd)
      have HEn := Lib.hid (bel_trans HEm.out hbe)
      have SN := Lib.hid (SM.out.keep hbe)
      clear hon hbe SM HEm Rm
      go_wp2_with fail
      refine HIn.out.mono ?_
      rintro e wo ⟨A9, c9, rfl, ho9, hbe⟩
      have hba := (below2 wo (.cells #[.slice A9 V.cs.length c9, .int .i64 V.at', .bool V.stop] 33) (.cells #[.int .i64 o.op, .int .i64 o.a, .int .i64 o.b] 41))
      have HEo := Lib.hid (bel_trans HEn.out (bel_trans hbe hba))
      have SI := Lib.hid (SN.out.keep (bel_trans hbe hba))
      have N9 := Lib.hid (alloc_at0 wo (.cells #[.slice A9 V.cs.length c9, .int .i64 V.at', .bool V.stop] 33) (.cells #[.int .i64 o.op, .int .i64 o.a, .int .i64 o.b] 41))
      have N9o : Hid (∀ (q : Ord3), (some o) = some q → ((wo.alloc (.cells #[.slice A9 V.cs.length c9, .int .i64 V.at', .bool V.stop] 33)).alloc (.cells #[.int .i64 o.op, .int .i64 o.a, .int .i64 o.b] 41)).heap[wo.heap.size + 1]? = some (.cells #[.int .i64 q.op, .int .i64 q.a, .int .i64 q.b] 41 (0, 0))) := (fun q hq => by injection hq with hq; subst hq; exact alloc_at1 wo (.cells #[.slice A9 V.cs.length c9, .int .i64 V.at', .bool V.stop] 33) (.cells #[.int .i64 o.op, .int .i64 o.a, .int .i64 o.b] 41))
      have R9 : Hid (Rd eInt ((wo.alloc (.cells #[.slice A9 V.cs.length c9, .int .i64 V.at', .bool V.stop] 33)).alloc (.cells #[.int .i64 o.op, .int .i64 o.a, .int .i64 o.b] 41)) wo.heap.size A9 V.cs) := ho9.rd.below hba
      clear ho9 hbe hba SN HEn HIn
      go_upto_region 32 with (fail)
      obtain ⟨wp', hwp⟩ : ∃ wp', wp' = ((wo.alloc (.cells #[.slice A9 V.cs.length c9, .int .i64 V.at', .bool V.stop] 33)).alloc (.cells #[.int .i64 o.op, .int .i64 o.a, .int .i64 o.b] 41)) := ⟨_, rfl⟩
      obtain ⟨T9, hT9⟩ : ∃ T9, T9 = wo.heap.size := ⟨_, rfl⟩
      have hhp : T9 ≤ wp'.heap.size := by rw [hwp, hT9]; simp; omega
      rw [← hwp] at HEo SI N9 N9o R9 ⊢
      rw [← hT9] at N9 N9o R9 ⊢
      clear hwp hT9
      obtain ⟨a0, a1, a2, _, _, _, _⟩ := cell3 N9.out
      obtain ⟨g0, g1, g2, _, _, _, _⟩ := cell3 SI.out.k6
      have CQ := Lib.hid (callEqCoreT A9 A3 c9 c3 V wp' wp'.heap.size (Nat.le_refl _) hVl (R9.out.mono hhp) (SI.out.r6.mono (by have := (Array.getElem?_eq_some_iff.1 SI.out.k6).1; omega)))
      clear hhp
      go_wp2_with fail
      refine CQ.out.mono ?_
      rintro e wq ⟨rfl, hbe⟩
      have HEq := Lib.hid (bel_trans HEo.out hbe)
      have SJ := Lib.hid (SI.out.keep hbe)
      have N9q : Hid (∀ (q : Ord3), (some o) = some q → wq.heap[T9 + 1]? = some (.cells #[.int .i64 q.op, .int .i64 q.a, .int .i64 q.b] 41 (0, 0))) := fun q hq => blkc (N9o.out q hq) hbe
      clear hbe CQ SI HEo a0 a1 a2 g0 g1 g2 N9 R9 N9o
      obtain ⟨a0, a1, a2, _, _, _, _⟩ := cell3 (N9q.out o rfl)
      obtain ⟨g0, g1, g2, _, _, _, _⟩ := cell3 (SJ.out.k6o o rfl)
      go_wp2_with fail
      refine (callEqOrderT o wq).mono ?_
      rintro e wq' ⟨rfl, hbe⟩
      have SJ' := Lib.hid (SJ.out.keep hbe)
      have HEq' := Lib.hid (bel_trans HEq.out hbe)
      clear SJ HEq
      have SJ := SJ'
      have HEq := HEq'
      clear SJ' HEq'
      clear hbe a0 a1 a2 g0 g1 g2
      obtain ⟨a0, a1, a2, _, _, _, _⟩ := cell3 SJ.out.k8
      go_wp2_with fail
      refine (HLD.out wq' HEq.out).mono ?_
      rintro e wr' ⟨rfl, hbe⟩
      have HFIN := Lib.hid (bel_trans SJ.out.bel hbe)
      clear hbe
      go_wp2
      go_ret
      exact ⟨rfl, HFIN.out⟩
    · have E4 := E3.out.trans (if_neg h1)
      rw [E4]
      clear E3 E4 h1
      go_wp2
      go_ret
      exact ⟨rfl, HB1.out⟩
  · have E2 := E1.out.trans (if_neg h0)
    rw [E2]
    clear E1 E2
    go_wp2
    go_ret
    exact ⟨rfl, HB1.out⟩
end Go.Proofs.Ytiodpnhokjkjaaa
