/- The walk of the law FnSlotsTwice: true for every input, and nothing that was there is written. -/
import Derived.Test.YtbjhekkebnkejaaSlr
import Derived.Test.YtbjhekkebnkejaaDrs
import Derived.Test.YtbjhekkebnkejaaFrl
namespace Go.Proofs.Ytbjhekkebnkejaa
open Go.RowKit Go.Sort

set_option maxRecDepth 100000 in
set_option maxHeartbeats 3200000 in
theorem walkFnSlotsTwice (A : Option Addr) (c : Nat) (bs : List Int) (w : World) (hc : bs.length ≤ c) (hr : Rd eU8 w w.heap.size A bs) (hby : ∀ x ∈ bs, 0 ≤ x ∧ x ≤ 255) :
    Calls Try.prog 4 #[.slice A bs.length c] w fun e w' => e = .returned (.bool true) ∧ Below w.heap.size w w' := by
  by_cases hl : bs.length ≤ 1048576
  · have HC := Lib.hid (callDrawWhoRuns A c bs w hc hl hr hby)
    clear hr hby
    go_enter Try.func4, Try.ntmps4
    go_wp2_with fail
    refine HC.out.mono ?_
    rintro e w1 ⟨A, c, xs, p, t, rfl, hrd, hlen, hp1, hp2, ht1, ht2, hb1⟩
    have HB1 := Lib.hid hb1
    clear hb1 HC
    have HX := Lib.hid hrd
    clear hrd
    have HBa := Lib.hid (Below.refl w1.heap.size w1)
    have hv : (sltsOk xs p && tkOk t) = false ∨ (sltsOk xs p = true ∧ tkOk t = true) := by
      cases h1 : sltsOk xs p <;> cases h3 : tkOk t <;> simp
    rcases hv with hno | ⟨hs, ht⟩
    · have H1 : Hid (whoRuns xs p t = -2) := by show _ = _; unfold whoRuns; rw [hno]; rfl
      clear hno
      go_wp2_with fail
      refine (callWhoRuns A c xs p t _ w1.heap.size HBa.out.size (by omega) (by omega) (by omega) (HX.out.below HBa.out)).mono ?_
      rintro e w2 ⟨rfl, hb2⟩
      rw [H1.out]
      have HB2 := Lib.hid (HBa.out.trans (hb2.mono HBa.out.size))
      clear hb2
      go_wp2_with fail
      refine (callSWhoRuns A c xs p t _ w1.heap.size HB2.out.size (by omega) (by omega) (by omega) (HX.out.below HB2.out)).mono ?_
      rintro e w3 ⟨rfl, hb3⟩
      rw [H1.out]
      have HB3 := Lib.hid (HB2.out.trans (hb3.mono HB2.out.size))
      clear hb3
      go_wp2_with fail
      refine (callAlive _).mono ?_
      rintro e w9 ⟨rfl, hb9⟩
      go_wp2
      go_ret
      exact ⟨rfl, bel_trans HB1.out (bel_trans HB3.out hb9)⟩
    · obtain ⟨h0, h1⟩ := inB_iff.1 ht
      obtain ⟨T, rfl⟩ := Int.eq_ofNat_of_zero_le h0
      have hbd := fr_bd hs
      have HS := Lib.hid hs
      obtain ⟨a, ha⟩ : ∃ a, a = whoAt (fr xs) T := ⟨_, rfl⟩
      have hin := who_in hs T
      rw [← ha] at hin
      have H1 : Hid (whoRuns xs p (T : Int) = a) := by
        show _ = _
        unfold whoRuns
        rw [hs, ht, ha]; rfl
      have hnn : (a != a) = false := by simp
      have ha2 : (a == -2) = false := by rw [beq_eq_false_iff_ne]; omega
      have haa : (a == a) = true := by simp
      have hl1 : 1 ≤ xs.length := (sltsOk_iff.1 hs).2.1.1
      have HT := Lib.hid ht
      clear ha hs ht
      go_wp2_with fail
      refine (callWhoRuns A c xs p T _ w1.heap.size HBa.out.size (by omega) (by omega) (by omega) (HX.out.below HBa.out)).mono ?_
      rintro e w2 ⟨rfl, hb2⟩
      rw [H1.out]
      have HB2 := Lib.hid (HBa.out.trans (hb2.mono HBa.out.size))
      clear hb2
      go_wp2_with fail
      refine (callSWhoRuns A c xs p T _ w1.heap.size HB2.out.size (by omega) (by omega) (by omega) (HX.out.below HB2.out)).mono ?_
      rintro e w3 ⟨rfl, hb3⟩
      rw [H1.out]
      have HB3 := Lib.hid (HB2.out.trans (hb3.mono HB2.out.size))
      clear hb3
      by_cases hl2 : 12 < 2 * xs.length
      · have hl2 : decide (2 * (xs.length : Int) > 12) = true := decide_eq_true (by omega)
        go_wp2_with fail
        refine (callAlive _).mono ?_
        rintro e w9 ⟨rfl, hb9⟩
        go_wp2
        go_ret
        exact ⟨rfl, bel_trans HB1.out (bel_trans HB3.out hb9)⟩
      · have H2 : Hid (whoRuns (xs ++ xs) p (T : Int) = a) := by
          show _ = _
          rw [whoRuns_twice HS.out HT.out (by omega)]; exact H1.out
        have HO : Hid (Rd eSlt (w3.alloc (.cells #[] 35)) (w3.alloc (.cells #[] 35)).heap.size A xs) := (HX.out.below (HB3.out.trans ((below1 _ _).mono HB3.out.size))).mono (by have := HB3.out.size; simp; omega)
        go_wp2_with (first
          | (at_builtin; refine wpList_app _ eiSlt rfl (.tmp 35) (.tmp 36) rfl w3.heap.size Own.none_ HO.out rfl rfl rfl (by simp; omega) (by simp) ?_; intro v' w4 row hown4 hg4 hrow4; have hb4 := below_of_row hg4 (fun k hk => (hrow4 k hk).1) (by simp); have HB4 : Hid (Below w3.heap.size w3 w4) := (below1 _ _).trans hb4; have q4 : Own eSlt 35 w4 w3.heap.size v' xs := (by (have := hown4; simpa using this)); have HO4 := Lib.hid q4; clear q4; have HR4 : Hid (Rd eSlt w4 w4.heap.size A xs) := (HX.out.below (HB3.out.trans (HB4.out.mono HB3.out.size))).mono (Nat.le_trans HB3.out.size HB4.out.size); clear hown4 hg4 hrow4 hb4)
          | (at_builtin; refine wpList_app _ eiSlt rfl (.tmp 37) (.tmp 38) rfl w3.heap.size HO4.out HR4.out rfl rfl rfl (by omega) HB4.out.size ?_; intro v5 w5 row5 hown5 hg5 hrow5; have hb5 := below_of_row hg5 (fun k hk => (hrow5 k hk).1) HB4.out.size; have HB5 : Hid (Below w1.heap.size w1 w5) := HB3.out.trans ((HB4.out.trans hb5).mono HB3.out.size); have HO5 := Lib.hid hown5; clear hown5 hg5 hrow5 hb5; obtain ⟨A5, c5, hv5, _, _⟩ := HO5.out.form; subst hv5))
        have HW5 := callWhoRuns A5 c5 (xs ++ xs) p T w5 w5.heap.size (Nat.le_refl _) (by rw [List.length_append]; omega) (by omega) (by omega) HO5.out.rd
        rw [List.length_append] at HW5
        refine HW5.mono ?_
        rintro e w6 ⟨rfl, hb6⟩
        rw [H2.out]
        go_wp2
        go_ret
        exact ⟨rfl, bel_trans HB1.out (bel_trans HB5.out hb6)⟩
  · have hl' : 1048576 < bs.length := by omega
    clear hr hby hl
    go_enter Try.func4, Try.ntmps4
    go_wp2
    go_ret
    exact ⟨rfl, Below.refl _ _⟩
end Go.Proofs.Ytbjhekkebnkejaa
