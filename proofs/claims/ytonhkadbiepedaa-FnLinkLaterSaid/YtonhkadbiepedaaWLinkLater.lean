/- The walk of the law FnLinkLater: true for every input, and nothing that was there is written. -/
import Derived.Test.YtonhkadbiepedaaWLinkTake
import Derived.Test.YtonhkadbiepedaaStw
namespace Go.Proofs.Ytonhkadbiepedaa
open Go.RowKit Go.Sort

set_option maxRecDepth 100000 in
set_option maxHeartbeats 3200000 in
theorem walkFnLinkLater (A : Option Addr) (c : Nat) (bs : List Int) (A' : Option Addr) (c' : Nat) (bs' : List Int) (w : World) (hc : bs.length ≤ c) (hr : Rd eU8 w w.heap.size A bs) (hby : ∀ x ∈ bs, 0 ≤ x ∧ x ≤ 255) (_ : bs'.length ≤ c') (_ : Rd eU8 w w.heap.size A' bs') (_ : ∀ x ∈ bs', 0 ≤ x ∧ x ≤ 255) :
    Calls Try.prog 5 #[.slice A bs.length c, .slice A' bs'.length c'] w fun e w' => e = .returned (.bool true) ∧ Below w.heap.size w w' := by
  rename_i u1 u2 u3
  clear u1 u2 u3
  by_cases hl : bs.length ≤ 1048576
  · by_cases hl2 : bs'.length ≤ 1048576
    · have HC := Lib.hid (callDrawLinkTake A c bs w hc hl hr hby)
      clear hr hby
      obtain ⟨m, hm⟩ : ∃ m : Nat, m = bs'.length % 40 := ⟨_, rfl⟩
      have hm40 : m < 40 := by omega
      have hm2 : (bs'.length : Int) % 40 = (m : Int) := by omega
      have hm3 : Int.tmod (bs'.length : Int) 40 = (m : Int) := by rw [Int.tmod_eq_emod_of_nonneg (by omega)]; exact hm2
      clear hm
      go_enter Try.func5, Try.ntmps5
      go_wp2_with fail
      refine HC.out.mono ?_
      rintro e w1 ⟨Al, cl, d, ps, t, rfl, hrd, hcl, hll, ht0, ht1, hb1⟩
      have HB1 := Lib.hid hb1
      have HP := Lib.hid hrd
      clear hb1 HC hrd
      have HBa := Lib.hid (below1 w1 (.cells #[.int .i64 d, .slice Al ps.length cl] 36))
      have HXa := Lib.hid (heap_alloc_new w1 (.cells #[.int .i64 d, .slice Al ps.length cl] 36))
      obtain ⟨r, hr⟩ : ∃ r, r = linkTake d ps t := ⟨_, rfl⟩
      have hrl : r.1.2.length ≤ 1000 ∧ r.2.length ≤ 1000 := by
        rw [hr]; unfold linkTake
        have := cutN_le ps t
        split
        · simp only [List.length_drop, List.length_map, List.length_take]; omega
        · simp
      have T1 : Hid (∀ W, Below w1.heap.size w1 W → Calls Try.prog 20 #[.agg #[.int .i64 d, .slice Al ps.length cl], .int .i64 t] W fun e w' => ∃ A1 A2, e = .returned (.tuple #[.agg #[.int .i64 r.1.1, .slice A1 r.1.2.length r.1.2.length], .slice A2 r.2.length r.2.length]) ∧ Own ePkt 46 w' W.heap.size (.slice A1 r.1.2.length r.1.2.length) r.1.2 ∧ Own eInt 3 w' W.heap.size (.slice A2 r.2.length r.2.length) r.2 ∧ Below W.heap.size W w') := fun W hW => by
        rw [hr]
        exact callLinkTake Al cl d ps t W w1.heap.size hW.size hcl (by omega) (HP.out.below hW)
      have T2 : Hid (∀ W, Below w1.heap.size w1 W → Calls Try.prog 23 #[.agg #[.int .i64 d, .slice Al ps.length cl], .int .i64 t] W (LkRes W r)) := fun W hW => by
        rw [hr]
        exact callSLinkTake Al cl d ps t W w1.heap.size hW.size (by omega) (HP.out.below hW)
      have V : Hid (∀ W, Below w1.heap.size w1 W → Calls Try.prog 25 #[.agg #[.int .i64 d, .slice Al ps.length cl]] W fun e w' => e = .returned (.bool (linkOk d ps)) ∧ Below W.heap.size W w') := fun W hW => callSLinkValid Al cl d ps W w1.heap.size hW.size (by omega) (HP.out.below hW)
      have HR := Lib.hid hr
      clear hr
      obtain ⟨⟨dx, xs⟩, gs⟩ := r
      simp only at hrl T1
      obtain ⟨hxl, hgl⟩ := hrl
      obtain ⟨x1, x2, _, _, x3⟩ := cell2 HXa.out
      go_wp2_with fail
      refine (T1.out _ HBa.out).mono ?_
      rintro e w2 ⟨Ax, Ag, rfl, hown2, hog2, hb2⟩
      have hb2a := bel_trans hb2 (below1 w2 (.cells #[.int .i64 dx, .slice Ax xs.length xs.length] 36))
      have HB2 := Lib.hid (bel_trans HBa.out hb2a)
      have HX2 := Lib.hid (blkc HXa.out hb2a)
      have HY2 := Lib.hid (heap_alloc_new w2 (.cells #[.int .i64 dx, .slice Ax xs.length xs.length] 36))
      have HR2 := Lib.hid (hown2.alloc (.cells #[.int .i64 dx, .slice Ax xs.length xs.length] 36)).rd
      have HG2 := Lib.hid (hog2.alloc (.cells #[.int .i64 dx, .slice Ax xs.length xs.length] 36)).rd
      clear hb2 hb2a hown2 hog2 x1 x2 x3 T1
      obtain ⟨x1, x2, _, _, x3⟩ := cell2 HX2.out
      go_wp2_with fail
      refine (T2.out _ HB2.out).mono ?_
      rintro e w3 ⟨Ay, cy, Ah, ch, rfl, hown3, hc3, hog3, hch3, hb3⟩
      have hb3a := bel_trans hb3 (below1 w3 (.cells #[.int .i64 dx, .slice Ay xs.length cy] 36))
      have HB3 := Lib.hid (bel_trans HB2.out hb3a)
      have HX3 := Lib.hid (blkc HX2.out hb3a)
      have HY3 := Lib.hid (blkc HY2.out hb3a)
      have HZ3 := Lib.hid (heap_alloc_new w3 (.cells #[.int .i64 dx, .slice Ay xs.length cy] 36))
      have HR3 := Lib.hid ((HR2.out.below hb3a).mono hb3a.size)
      have HG3 := Lib.hid ((HG2.out.below hb3a).mono hb3a.size)
      have HS3 := Lib.hid (hown3.alloc (.cells #[.int .i64 dx, .slice Ay xs.length cy] 36)).rd
      have HT3 := Lib.hid (hog3.alloc (.cells #[.int .i64 dx, .slice Ay xs.length cy] 36)).rd
      clear hb3 hb3a hown3 hog3 x1 x2 x3 T2 HX2 HY2 HR2 HG2
      obtain ⟨y1, y2, _, _, y3⟩ := cell2 HY3.out
      obtain ⟨z1, z2, _, _, z3⟩ := cell2 HZ3.out
      go_wp2_with fail
      refine (sameLinkT Ax Ay xs.length cy dx xs hxl _ HR3.out HS3.out).mono ?_
      rintro e w4 ⟨rfl, hb4⟩
      have HB4 := Lib.hid (bel_trans HB3.out hb4)
      have HG4 := Lib.hid ((HG3.out.below hb4).mono hb4.size)
      have HT4 := Lib.hid ((HT3.out.below hb4).mono hb4.size)
      have HR4 := Lib.hid ((HR3.out.below hb4).mono hb4.size)
      have HX4 := Lib.hid (blkc HX3.out hb4)
      have HY4 := Lib.hid (blkc HY3.out hb4)
      clear hb4 y1 y2 y3 z1 z2 z3 HX3 HY3 HZ3 HR3 HG3 HS3 HT3
      go_wp2_with fail
      refine (sameIntsT Ag Ah gs.length ch gs (by omega) _ HG4.out HT4.out).mono ?_
      rintro e w5 ⟨rfl, hb5⟩
      have HB5 := Lib.hid (bel_trans HB4.out hb5)
      have HG5 := Lib.hid ((HG4.out.below hb5).mono hb5.size)
      have HR5 := Lib.hid ((HR4.out.below hb5).mono hb5.size)
      have HX5 := Lib.hid (blkc HX4.out hb5)
      have HY5 := Lib.hid (blkc HY4.out hb5)
      clear hb5 HX4 HY4 HR4 HG4 HT4
      obtain ⟨x1, x2, _, _, x3⟩ := cell2 HX5.out
      go_wp2_with fail
      refine (V.out _ HB5.out).mono ?_
      rintro e w6 ⟨rfl, hb6⟩
      have HB6 := Lib.hid (bel_trans HB5.out hb6)
      have HG6 := Lib.hid ((HG5.out.below hb6).mono hb6.size)
      have HR6 := Lib.hid ((HR5.out.below hb6).mono hb6.size)
      have HX6 := Lib.hid (blkc HX5.out hb6)
      have HY6 := Lib.hid (blkc HY5.out hb6)
      clear hb6 x1 x2 x3 HX5 HY5 HR5 HG5 V
      by_cases hbad : linkOk d ps = false ∨ t < 0
      · have hway : ∀ (q : Bool), linkOk d ps = q → (q = false ∨ (q = true ∧ decide (t < 0) = true)) := fun q hq => by
          rcases hbad with h | h
          · rw [hq] at h; exact .inl h
          · cases q
            · exact .inl rfl
            · exact .inr ⟨rfl, decide_eq_true h⟩
        obtain ⟨q, hq⟩ : ∃ q, q = linkOk d ps := ⟨_, rfl⟩
        have hway2 := hway q hq.symm
        rw [← hq]
        clear hq hway hbad HR
        rcases hway2 with rfl | ⟨rfl, hd⟩
        all_goals
          go_wp2_with fail
          refine (callAlive _).mono ?_
          rintro e w9 ⟨rfl, hb9⟩
          go_wp2
          go_ret
          exact ⟨rfl, bel_trans HB1.out (bel_trans HB6.out hb9)⟩
      · have hq : linkOk d ps = true := by
          cases q : linkOk d ps
          · exact absurd (.inl q) hbad
          · rfl
        have htn : 0 ≤ t := by
          rcases Int.lt_or_le t 0 with h | h
          · exact absurd (.inr h) hbad
          · exact h
        have hdt : decide (t < 0) = false := decide_eq_false (by omega)
        have e := linkTake_good hq htn (by omega)
        rw [← HR.out] at e
        have hch := (linkOk_iff.1 hq).1
        have hle : t ≤ t + (m : Int) := by omega
        have hle2 : t + (m : Int) ≤ 100000 := by omega
        have hn := cutN_le ps t
        have hn2 := cutN_le ps (t + (m : Int))
        have DL := drop_later hch hle
        have e2 := linkTake_good (d := d) (linkTake_ok hq (cutN ps t)) (show 0 ≤ t + (m : Int) by omega) hle2
        have e3 := linkTake_good hq (show 0 ≤ t + (m : Int) by omega) hle2
        rw [DL.1] at e2
        have DL2 := DL.2
        rw [hq]
        clear hbad hch HR hq DL hle hle2
        injection e with e4 e5
        injection e4 with e4 e6
        subst e4
        rw [← e6] at e2 DL2
        rw [← e5] at DL2
        obtain ⟨L3, hL3⟩ : ∃ L3, L3 = ps.drop (cutN ps (t + (m : Int))) := ⟨_, rfl⟩
        obtain ⟨G3, hG3⟩ : ∃ G3, G3 = (ps.take (cutN ps (t + (m : Int)))).map Pkt.value := ⟨_, rfl⟩
        obtain ⟨G2, hG2⟩ : ∃ G2, G2 = (xs.take (cutN xs (t + (m : Int)))).map Pkt.value := ⟨_, rfl⟩
        have hl3 : L3.length ≤ 1000 := by rw [hL3, List.length_drop]; omega
        have hg3 : G3.length ≤ 1000 := by rw [hG3, List.length_map, List.length_take]; omega
        have hg2 : G2.length ≤ 1000 := by rw [hG2, List.length_map, List.length_take]; omega
        rw [← hL3, ← hG2] at e2
        rw [← hL3, ← hG3] at e3
        rw [← hG2, ← hG3] at DL2
        clear hL3 hG3 hG2 hn hn2 e5 e6
        have R2 : Hid (∀ W, Below w6.heap.size w6 W → Calls Try.prog 20 #[.agg #[.int .i64 dx, .slice Ax xs.length xs.length], .int .i64 (t + (m : Int))] W fun e w' => ∃ A1 A2, e = .returned (.tuple #[.agg #[.int .i64 dx, .slice A1 L3.length L3.length], .slice A2 G2.length G2.length]) ∧ Own ePkt 46 w' W.heap.size (.slice A1 L3.length L3.length) L3 ∧ Own eInt 3 w' W.heap.size (.slice A2 G2.length G2.length) G2 ∧ Below W.heap.size W w') := fun W hW => by
          have := callLinkTake Ax xs.length dx xs (t + (m : Int)) W w6.heap.size hW.size (Nat.le_refl _) (by omega) (HR6.out.below hW)
          rw [e2] at this; exact this
        have R3 : Hid (∀ W, Below w6.heap.size w6 W → Calls Try.prog 20 #[.agg #[.int .i64 dx, .slice Al ps.length cl], .int .i64 (t + (m : Int))] W fun e w' => ∃ A1 A2, e = .returned (.tuple #[.agg #[.int .i64 dx, .slice A1 L3.length L3.length], .slice A2 G3.length G3.length]) ∧ Own ePkt 46 w' W.heap.size (.slice A1 L3.length L3.length) L3 ∧ Own eInt 3 w' W.heap.size (.slice A2 G3.length G3.length) G3 ∧ Below W.heap.size W w') := fun W hW => by
          have := callLinkTake Al cl dx ps (t + (m : Int)) W w1.heap.size (Nat.le_trans HB6.out.size hW.size) hcl (by omega) (HP.out.below (bel_trans HB6.out hW))
          rw [e3] at this; exact this
        have HDL := Lib.hid DL2
        clear DL2 e2 e3
        obtain ⟨y1, y2, _, _, y3⟩ := cell2 HY6.out
        go_wp2_with fail
        refine (R2.out _ (Below.refl _ _)).mono ?_
        rintro e w7 ⟨B1, B2, rfl, hown7, hog7, hb7⟩
        have hb7a := bel_trans hb7 (below1 w7 (.cells #[.int .i64 dx, .slice B1 L3.length L3.length] 36))
        have HB7 := Lib.hid hb7a
        have HX7 := Lib.hid (blkc HX6.out hb7a)
        have HZ7 := Lib.hid (heap_alloc_new w7 (.cells #[.int .i64 dx, .slice B1 L3.length L3.length] 36))
        have HL7 := Lib.hid (hown7.alloc (.cells #[.int .i64 dx, .slice B1 L3.length L3.length] 36)).rd
        have HG7 := Lib.hid (hog7.alloc (.cells #[.int .i64 dx, .slice B1 L3.length L3.length] 36)).rd
        have HK7 := Lib.hid ((HG6.out.below hb7a).mono hb7a.size)
        clear hb7 hb7a hown7 hog7 y1 y2 y3 R2
        obtain ⟨x1, x2, _, _, x3⟩ := cell2 HX7.out
        go_wp2_with fail
        refine (R3.out _ HB7.out).mono ?_
        rintro e w8 ⟨B3, B4, rfl, hown8, hog8, hb8⟩
        have hb8a := bel_trans hb8 (below1 w8 (.cells #[.int .i64 dx, .slice B3 L3.length L3.length] 36))
        have HB8 := Lib.hid (bel_trans HB7.out hb8a)
        have HZ8 := Lib.hid (blkc HZ7.out hb8a)
        have HU8 := Lib.hid (heap_alloc_new w8 (.cells #[.int .i64 dx, .slice B3 L3.length L3.length] 36))
        have HL8 := Lib.hid ((HL7.out.below hb8a).mono hb8a.size)
        have HG8 := Lib.hid ((HG7.out.below hb8a).mono hb8a.size)
        have HK8 := Lib.hid ((HK7.out.below hb8a).mono hb8a.size)
        have HM8 := Lib.hid (hown8.alloc (.cells #[.int .i64 dx, .slice B3 L3.length L3.length] 36)).rd
        have HN8 := Lib.hid (hog8.alloc (.cells #[.int .i64 dx, .slice B3 L3.length L3.length] 36)).rd
        clear hb8 hb8a hown8 hog8 x1 x2 x3 R3
        obtain ⟨y1, y2, _, _, y3⟩ := cell2 HZ8.out
        obtain ⟨z1, z2, _, _, z3⟩ := cell2 HU8.out
        go_wp2_with fail
        refine (sameLinkT B1 B3 L3.length L3.length dx L3 hl3 _ HL8.out HM8.out).mono ?_
        rintro e w9 ⟨rfl, hb9⟩
        have HB9 := Lib.hid (bel_trans HB8.out hb9)
        have HG9 := Lib.hid ((HG8.out.below hb9).mono hb9.size)
        have HK9 := Lib.hid ((HK8.out.below hb9).mono hb9.size)
        have HN9 := Lib.hid ((HN8.out.below hb9).mono hb9.size)
        clear hb9 y1 y2 y3 z1 z2 z3 HL7 HG7 HK7
        have HKA := Lib.hid (HK9.out.below (below1 w9 (.cells #[] 3)))
        go_wp2_with (first
          | (at_builtin; refine wpList_app_want _ eiInt rfl (.tmp 80) (.tmp 81) rfl w9.heap.size (xs := []) (Own.none_ (A := some ⟨w9.heap.size, 0, none⟩)) HKA.out rfl rfl rfl (by show 0 + _ ≤ _; omega) (by simp) ?_; intro v' wa row howna' hga hrowa; have howna : Own eInt 3 wa w9.heap.size v' gs := howna'; obtain ⟨Aa, ca, hva, hca, _⟩ := howna.form; subst hva; have HBA := Lib.hid ((below1 w9 (.cells #[] 3)).trans (below_of_row hga (fun k hk => (hrowa k hk).1) (by simp))); have HOA := Lib.hid howna; clear howna howna' hga hrowa; have HGA := Lib.hid ((HG9.out.below HBA.out)); have hsA := HBA.out.size)
          | (at_builtin; refine wpList_app_want _ eiInt rfl (.tmp 82) (.tmp 83) rfl w9.heap.size HOA.out HGA.out rfl rfl rfl (by omega) hsA ?_; intro v' wb row hownb' hgb hrowb; have hownb : Own eInt 3 wb w9.heap.size v' G3 := (by rw [← HDL.out]; exact hownb'); obtain ⟨Ab, cb, hvb, hcb, _⟩ := hownb.form; subst hvb; have HBB := Lib.hid (HBA.out.trans (below_of_row hgb (fun k hk => (hrowb k hk).1) hsA)); have HOB := Lib.hid hownb.rd; clear hownb hownb' hgb hrowb; have HNB := Lib.hid ((HN9.out.below HBB.out).mono HBB.out.size)))
        refine (sameIntsT Ab B4 cb G3.length G3 (by omega) _ HOB.out HNB.out).mono ?_
        rintro e wc ⟨rfl, hbc⟩
        have HBC := Lib.hid (bel_trans HB6.out (bel_trans HB9.out (bel_trans HBB.out hbc)))
        go_wp2
        go_ret
        exact ⟨rfl, bel_trans HB1.out HBC.out⟩
    · have hl2' : 1048576 < bs'.length := by omega
      clear hr hby hl2
      go_enter Try.func5, Try.ntmps5
      go_wp2
      go_ret
      exact ⟨rfl, Below.refl _ _⟩
  · have hl' : 1048576 < bs.length := by omega
    clear hr hby hl
    go_enter Try.func5, Try.ntmps5
    go_wp2
    go_ret
    exact ⟨rfl, Below.refl _ _⟩
end Go.Proofs.Ytonhkadbiepedaa
