/- The walk of the law FnLinkSend: true for every input, and nothing that was there is written. -/
import Derived.Test.YtonhkadbiepedaaDls
import Derived.Test.YtonhkadbiepedaaWLinkTake
namespace Go.Proofs.Ytonhkadbiepedaa
open Go.RowKit Go.Sort

theorem linkSend_cases (d : Int) (ps : List Pkt) (t v : Int) : (linkSend d ps t v = ((0, []), false)) ∨ (linkSend d ps t v = ((d, ps), false)) ∨
    (linkSend d ps t v = ((d, ps ++ [⟨t + d, v⟩]), true) ∧ (0 ≤ t ∧ t ≤ 100000) ∧ (0 ≤ d ∧ d ≤ 50) ∧ ps.length ≤ 19 ∧ linkOk d (ps ++ [⟨t + d, v⟩]) = true) := by
  cases q : ((linkOk d ps && inB t 0 100000) && inB v 0 255)
  · left; unfold linkSend; rw [q]; rfl
  · right
    rw [linkSend_good q]
    rw [Bool.and_eq_true, Bool.and_eq_true] at q
    obtain ⟨⟨q1, q2⟩, q3⟩ := q
    cases hf : linkFull d ps t
    · right
      obtain ⟨_, hd, hl⟩ := linkOk_iff.1 q1
      have hok := linkSend_ok q1 q2 q3 hf
      have := (linkOk_iff.1 hok).2.2
      simp only [List.length_append, List.length_cons, List.length_nil] at this
      exact ⟨rfl, inB_iff.1 q2, hd, by omega, hok⟩
    · left; rfl
set_option maxRecDepth 100000 in
set_option maxHeartbeats 3200000 in
theorem walkFnLinkSend (A : Option Addr) (c : Nat) (bs : List Int) (w : World) (hc : bs.length ≤ c) (hr : Rd eU8 w w.heap.size A bs) (hby : ∀ x ∈ bs, 0 ≤ x ∧ x ≤ 255) :
    Calls Try.prog 4 #[.slice A bs.length c] w fun e w' => e = .returned (.bool true) ∧ Below w.heap.size w w' := by
  by_cases hl : bs.length ≤ 1048576
  · have HC := Lib.hid (callDrawLinkSend A c bs w hc hl hr hby)
    clear hr hby
    go_enter Try.func4, Try.ntmps4
    go_wp2_with fail
    refine HC.out.mono ?_
    rintro e w1 ⟨Al, cl, d, ps, t, v, rfl, hrd, hcl, hll, hb1⟩
    have HB1 := Lib.hid hb1
    have HP := Lib.hid hrd
    clear hb1 HC hrd
    have HBa := Lib.hid (below1 w1 (.cells #[.int .i64 d, .slice Al ps.length cl] 36))
    have HXa := Lib.hid (heap_alloc_new w1 (.cells #[.int .i64 d, .slice Al ps.length cl] 36))
    obtain ⟨r, hr⟩ : ∃ r, r = linkSend d ps t v := ⟨_, rfl⟩
    have hway := linkSend_cases d ps t v
    rw [← hr] at hway
    have hrl : r.1.2.length ≤ 100 := by
      rcases hway with h | h | ⟨h, _, _, h4, _⟩ <;> rw [h] <;> simp <;> omega
    have T1 : Hid (∀ W, Below w1.heap.size w1 W → Calls Try.prog 17 #[.agg #[.int .i64 d, .slice Al ps.length cl], .int .i64 t, .int .i64 v] W fun e w' => ∃ A1, e = .returned (.tuple #[.agg #[.int .i64 r.1.1, .slice A1 r.1.2.length r.1.2.length], .bool r.2]) ∧ Own ePkt 46 w' W.heap.size (.slice A1 r.1.2.length r.1.2.length) r.1.2 ∧ Below W.heap.size W w') := fun W hW => by
      rw [hr]
      exact callLinkSend Al cl d ps t v W w1.heap.size hW.size hcl (by omega) (HP.out.below hW)
    have T2 : Hid (∀ W, Below w1.heap.size w1 W → Calls Try.prog 18 #[.agg #[.int .i64 d, .slice Al ps.length cl], .int .i64 t, .int .i64 v] W fun e w' => ∃ A1 c1, e = .returned (.tuple #[.agg #[.int .i64 r.1.1, .slice A1 r.1.2.length c1], .bool r.2]) ∧ Own ePkt 46 w' W.heap.size (.slice A1 r.1.2.length c1) r.1.2 ∧ r.1.2.length ≤ c1 ∧ Below W.heap.size W w') := fun W hW => by
      rw [hr]
      exact callSLinkSend Al cl d ps t v W w1.heap.size hW.size (by omega) (HP.out.below hW)
    clear hr
    obtain ⟨⟨dx, xs⟩, ok⟩ := r
    simp only at hrl T1 T2
    obtain ⟨x1, x2, _, _, x3⟩ := cell2 HXa.out
    have HWAY := Lib.hid hway
    have hmm : (ok != ok) = false := by simp
    clear hway
    go_wp2_with fail
    refine (T1.out _ HBa.out).mono ?_
    rintro e w2 ⟨Ax, rfl, hown2, hb2⟩
    have hb2a := bel_trans hb2 (below1 w2 (.cells #[.int .i64 dx, .slice Ax xs.length xs.length] 36))
    have HB2 := Lib.hid (bel_trans HBa.out hb2a)
    have HX2 := Lib.hid (blkc HXa.out hb2a)
    have HY2 := Lib.hid (heap_alloc_new w2 (.cells #[.int .i64 dx, .slice Ax xs.length xs.length] 36))
    have HR2 := Lib.hid (hown2.alloc (.cells #[.int .i64 dx, .slice Ax xs.length xs.length] 36)).rd
    clear hb2 hb2a hown2 x1 x2 x3 T1
    obtain ⟨x1, x2, _, _, x3⟩ := cell2 HX2.out
    go_wp2_with fail
    refine (T2.out _ HB2.out).mono ?_
    rintro e w3 ⟨Ay, cy, rfl, hown3, hc3, hb3⟩
    have hb3a := bel_trans hb3 (below1 w3 (.cells #[.int .i64 dx, .slice Ay xs.length cy] 36))
    have HB3 := Lib.hid (bel_trans HB2.out hb3a)
    have HX3 := Lib.hid (blkc HX2.out hb3a)
    have HY3 := Lib.hid (blkc HY2.out hb3a)
    have HZ3 := Lib.hid (heap_alloc_new w3 (.cells #[.int .i64 dx, .slice Ay xs.length cy] 36))
    have HR3 := Lib.hid ((HR2.out.below hb3a).mono hb3a.size)
    have HS3 := Lib.hid (hown3.alloc (.cells #[.int .i64 dx, .slice Ay xs.length cy] 36)).rd
    clear hb3 hb3a hown3 x1 x2 x3 T2 HX2 HY2 HR2
    obtain ⟨y1, y2, _, _, y3⟩ := cell2 HY3.out
    obtain ⟨z1, z2, _, _, z3⟩ := cell2 HZ3.out
    go_wp2_with fail
    refine (sameLinkT Ax Ay xs.length cy dx xs (by omega) _ HR3.out HS3.out).mono ?_
    rintro e w4 ⟨rfl, hb4⟩
    have HB4 := Lib.hid (bel_trans HB3.out hb4)
    have HR4 := Lib.hid ((HR3.out.below hb4).mono hb4.size)
    have HX4 := Lib.hid (blkc HX3.out hb4)
    have HY4 := Lib.hid (blkc HY3.out hb4)
    have HP4 := Lib.hid ((HP.out.below HB4.out).mono HB4.out.size)
    clear hb4 y1 y2 y3 z1 z2 z3 HX3 HY3 HZ3 HR3 HS3
    obtain ⟨x1, x2, _, _, x3⟩ := cell2 HX4.out
    obtain ⟨y1, y2, _, _, y3⟩ := cell2 HY4.out
    rcases HWAY.out with h | h | ⟨h, ht, hd, h4, hok⟩
    · injection h with h1 h2
      injection h1 with h1 h3
      subst h1 h2 h3
      clear HWAY hmm
      go_wp2_with fail
      refine (callSameLink Ax Al 0 cl 0 d [] ps _ _ (Nat.le_refl _) (by simp) (by omega) HR4.out HP4.out).mono ?_
      rintro e w5 ⟨⟨b, rfl, _⟩, hb5⟩
      have HB5 := Lib.hid (bel_trans HB4.out hb5)
      have HY5 := Lib.hid (blkc HY4.out hb5)
      clear hb5 x1 x2 x3 y1 y2 y3
      cases b
      · obtain ⟨y1, y2, _, _, y3⟩ := cell2 HY5.out
        go_wp2_with fail
        refine (sameLinkT Ax none 0 0 0 [] (by simp) _ Rd.nil Rd.nil).mono ?_
        rintro e w6 ⟨rfl, hb6⟩
        have HB6 := Lib.hid (bel_trans HB5.out hb6)
        clear hb6 y1 y2 y3
        go_wp2_with fail
        refine (callAlive _).mono ?_
        rintro e w9 ⟨rfl, hb9⟩
        go_wp2
        go_ret
        exact ⟨rfl, bel_trans HB1.out (bel_trans HB6.out hb9)⟩
      · go_wp2_with fail
        refine (callAlive _).mono ?_
        rintro e w9 ⟨rfl, hb9⟩
        go_wp2
        go_ret
        exact ⟨rfl, bel_trans HB1.out (bel_trans HB5.out hb9)⟩
    · injection h with h1 h2
      injection h1 with h1 h3
      subst h1 h2 h3
      clear HWAY hmm
      go_wp2_with fail
      refine (sameLinkT Ax Al xs.length cl dx xs (by omega) _ HR4.out HP4.out).mono ?_
      rintro e w5 ⟨rfl, hb5⟩
      have HB5 := Lib.hid (bel_trans HB4.out hb5)
      clear hb5 x1 x2 x3 y1 y2 y3
      go_wp2_with fail
      refine (callAlive _).mono ?_
      rintro e w9 ⟨rfl, hb9⟩
      go_wp2
      go_ret
      exact ⟨rfl, bel_trans HB1.out (bel_trans HB5.out hb9)⟩
    · injection h with h1 h2
      injection h1 with h1 h3
      subst h1 h2
      obtain ⟨ht0, ht1⟩ := ht
      obtain ⟨hd0, hd1⟩ := hd
      have hxl : xs.length = ps.length + 1 := by rw [h3]; simp
      have HXL := Lib.hid hxl
      have heq : ((xs.length : Int) == (ps.length : Int) + 1) = true := by rw [beq_iff_eq]; omega
      clear HWAY hmm
      by_cases hbig : 100000 < t + dx
      · have hdb : decide (100000 < t + dx) = true := decide_eq_true hbig
        clear hxl
        go_wp2
        go_ret
        exact ⟨rfl, bel_trans HB1.out HB4.out⟩
      · have hdb : decide (100000 < t + dx) = false := decide_eq_false hbig
        have hg := linkTake_good hok (show 0 ≤ t + dx by omega) (by omega)
        rw [linkSend_all hok] at hg
        have hxlen : ps.length + 1 = xs.length := by omega
        rw [hxlen, ← h3, List.drop_length, List.take_length] at hg
        rw [← h3] at hok
        obtain ⟨G, hG⟩ : ∃ G, G = xs.map Pkt.value := ⟨_, rfl⟩
        have hgl : G.length = ps.length + 1 := by rw [hG, List.length_map]; exact hxl
        have hlt : ps.length < xs.length := by omega
        have hgt : ps.length < G.length := by omega
        have hxv : xs[ps.length].value = v := by
          subst h3
          rw [List.getElem_append_right (Nat.le_refl _)]; simp
        have hgv : G[ps.length] = v := by
          subst hG
          rw [List.getElem_map]; exact hxv
        rw [← hG] at hg
        have T3 : Hid (∀ W, Below w4.heap.size w4 W → Calls Try.prog 20 #[.agg #[.int .i64 dx, .slice Ax xs.length xs.length], .int .i64 (t + dx)] W fun e w' => ∃ A1 A2, e = .returned (.tuple #[.agg #[.int .i64 dx, .slice A1 0 0], .slice A2 G.length G.length]) ∧ Own eInt 3 w' W.heap.size (.slice A2 G.length G.length) G ∧ Below W.heap.size W w') := fun W hW =>
          (callLinkTake Ax xs.length dx xs (t + dx) W w4.heap.size hW.size (Nat.le_refl _) (by omega) (HR4.out.below hW)).mono (by
            rw [hg]
            rintro e w' ⟨A1, A2, he, _, h2, h3⟩
            exact ⟨A1, A2, he, h2, h3⟩)
        have V3 : Hid (∀ W, Below w4.heap.size w4 W → Calls Try.prog 21 #[.agg #[.int .i64 dx, .slice Ax xs.length xs.length]] W fun e w' => e = .returned (.bool true) ∧ Below W.heap.size W w') := fun W hW => by
          have := callLinkValid Ax xs.length dx xs W w4.heap.size hW.size (by omega) (HR4.out.below hW)
          rw [hok] at this; exact this
        have heg : ((G.length : Int) == (ps.length : Int) + 1) = true := by rw [beq_iff_eq]; omega
        have HHX := Lib.hid hxv
        have HHG := Lib.hid hgv
        clear h3 hok hg hG hxl hxlen hgl hxv hgv
        go_wp2_with fail
        refine (T3.out _ (Below.refl _ _)).mono ?_
        rintro e w5 ⟨B1, B2, rfl, hog, hb5⟩
        have hb5a := bel_trans hb5 (below1 w5 (.cells #[.int .i64 dx, .slice B1 0 0] 36))
        have HB5 := Lib.hid hb5a
        have HG5 := Lib.hid (hog.alloc (.cells #[.int .i64 dx, .slice B1 0 0] 36)).rd
        have HZ5 := Lib.hid (heap_alloc_new w5 (.cells #[.int .i64 dx, .slice B1 0 0] 36))
        have HY5 := Lib.hid (blkc HY4.out hb5a)
        have HR5 := Lib.hid ((HR4.out.below hb5a).mono hb5a.size)
        clear hb5 hb5a hog x1 x2 x3 y1 y2 y3 T3
        obtain ⟨y1, y2, _, _, y3⟩ := cell2 HY5.out
        go_wp2_with fail
        refine (V3.out _ HB5.out).mono ?_
        rintro e w6 ⟨rfl, hb6⟩
        have HB6 := Lib.hid (bel_trans HB5.out hb6)
        clear y1 y2 y3
        obtain ⟨y1, y2, _, _, y3⟩ := cell2 (blkc HY5.out hb6)
        obtain ⟨z1, z2, _, _, z3⟩ := cell2 (blkc HZ5.out hb6)
        obtain ⟨b, off, rfl, hbB, k1, k2⟩ := (HR5.out.below hb6).at2 rfl hlt rfl
        obtain ⟨b', off', rfl, hbB', k3⟩ := (HG5.out.below hb6).at1 rfl hgt rfl
        rw [HHX.out] at k2
        rw [HHG.out] at k3
        have hvv : (v == v) = true := by simp
        have hi0 : (0 : Int) ≤ (ps.length : Int) := by omega
        have hi1 : (ps.length : Int) < (xs.length : Int) := by omega
        have hi2 : (ps.length : Int) < (G.length : Int) := by omega
        clear hb6 k1
        go_wp2
        go_ret
        exact ⟨rfl, bel_trans HB1.out (bel_trans HB4.out HB6.out)⟩
  · have hl' : 1048576 < bs.length := by omega
    clear hr hby hl
    go_enter Try.func4, Try.ntmps4
    go_wp2
    go_ret
    exact ⟨rfl, Below.refl _ _⟩
end Go.Proofs.Ytonhkadbiepedaa
