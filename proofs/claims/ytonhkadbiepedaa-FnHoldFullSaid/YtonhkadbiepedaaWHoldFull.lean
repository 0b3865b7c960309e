/- The walk of the law FnHoldFull: true for every input, and nothing that was there is written. -/
import Derived.Test.YtonhkadbiepedaaDrq
import Derived.Test.YtonhkadbiepedaaHos
namespace Go.Proofs.Ytonhkadbiepedaa
open Go.RowKit Go.Sort

set_option maxRecDepth 100000 in
set_option maxHeartbeats 3200000 in
theorem walkFnHoldFull (A : Option Addr) (c : Nat) (bs : List Int) (w : World) (hc : bs.length ≤ c) (hr : Rd eU8 w w.heap.size A bs) (hby : ∀ x ∈ bs, 0 ≤ x ∧ x ≤ 255) :
    Calls Try.prog 3 #[.slice A bs.length c] w fun e w' => e = .returned (.bool true) ∧ Below w.heap.size w w' := by
  by_cases hl : bs.length ≤ 1048576
  · have HC := Lib.hid (callDrawHoldTake A c bs w hc hl hr hby)
    clear hr hby
    go_enter Try.func3, Try.ntmps3
    go_wp2_with fail
    refine HC.out.mono ?_
    rintro e w1 ⟨Ah, ch, h, kind, size, rfl, hrd, hch, hlh, hb1⟩
    have HB1 := Lib.hid hb1
    clear hb1 HC hrd
    have HBa := Lib.hid (below1 w1 (.cells #[.slice Ah h.length ch] 25))
    have V1 : ∀ W, Hid (Calls Try.prog 11 #[.agg #[.slice none 0 0], .int .i64 kind, .int .i64 size] W fun e w' => e = .returned (.bool (holdOk [] kind size)) ∧ Below W.heap.size W w') := fun W => callHoldValid none 0 [] kind size W W.heap.size (Nat.le_refl _) (by simp) Rd.nil
    have V2 : ∀ W, Hid (Calls Try.prog 12 #[.agg #[.slice none 0 0], .int .i64 kind, .int .i64 size] W fun e w' => e = .returned (.bool (holdOk [] kind size)) ∧ Below W.heap.size W w') := fun W => callSHoldValid none 0 [] kind size W W.heap.size (Nat.le_refl _) (by simp) Rd.nil
    cases q : holdOk [] kind size
    · rw [q] at V1 V2
      clear q
      go_wp2_with fail
      refine (V1 _).out.mono ?_
      rintro e w2 ⟨rfl, hb2⟩
      have HB2 := Lib.hid (bel_trans HBa.out hb2)
      clear hb2
      go_wp2_with fail
      refine (V2 _).out.mono ?_
      rintro e w3 ⟨rfl, hb3⟩
      have HB3 := Lib.hid (bel_trans HB2.out hb3)
      clear hb3
      go_wp2_with fail
      refine (V2 _).out.mono ?_
      rintro e w4 ⟨rfl, hb4⟩
      have HB4 := Lib.hid (bel_trans HB3.out hb4)
      clear hb4
      go_wp2_with fail
      refine (callAlive _).mono ?_
      rintro e w9 ⟨rfl, hb9⟩
      go_wp2
      go_ret
      exact ⟨rfl, bel_trans HB1.out (bel_trans HB4.out hb9)⟩
    · rw [q] at V1 V2
      have hsz := (holdOk_iff.1 q).1
      have hbd := sizedB_bd hsz
      have HSZ := Lib.hid hsz
      clear q hsz
      go_wp2_with fail
      refine (V1 _).out.mono ?_
      rintro e w2 ⟨rfl, hb2⟩
      have HB2 := Lib.hid (bel_trans HBa.out hb2)
      clear hb2
      go_wp2_with fail
      refine (V2 _).out.mono ?_
      rintro e w3 ⟨rfl, hb3⟩
      have HB3 := Lib.hid (bel_trans HB2.out hb3)
      clear hb3
      go_wp2_with fail
      refine (V2 _).out.mono ?_
      rintro e w4 ⟨rfl, hb4⟩
      have HB4 := Lib.hid (bel_trans HB3.out hb4)
      clear hb4 V1 V2
      by_cases k1 : kind = 1
      · have d1 : (kind == 1) = true := by rw [k1]; rfl
        clear k1 hbd
        go_wp2_with fail
        refine (callAlive _).mono ?_
        rintro e w9 ⟨rfl, hb9⟩
        go_wp2
        go_ret
        exact ⟨rfl, bel_trans HB1.out (bel_trans HB4.out hb9)⟩
      · have d1 : (kind == 1) = false := by rw [beq_eq_false_iff_ne]; exact k1
        have HK1 := Lib.hid k1
        obtain ⟨b1, b2, b3, b4, _⟩ := hbd
        obtain ⟨n, rfl⟩ := Int.eq_ofNat_of_zero_le (show 0 ≤ size by omega)
        have hn1 : 1 ≤ n := by omega
        have hn4 : n ≤ 4 := by omega
        clear k1
        have HX0 := Lib.hid (heap_alloc_new w4 (.cells #[.slice none 0 0] 25))
        have HB5 := Lib.hid (bel_trans HB4.out (below1 w4 (.cells #[.slice none 0 0] 25)))
        have hX1 : w1.heap.size ≤ w4.heap.size := HB4.out.size
        obtain ⟨X, hX⟩ : ∃ X, X = w4.heap.size := ⟨_, rfl⟩
        have HF : ∀ k : Nat, k < n + 3 → Hid (holdSend (tens (min k n)) kind n (10 + (k : Int)) = (tens (min (k + 1) n), if (k : Int) < n then 0 else if kind = 3 then 1 else 0)) := fun k hk => by
          have := full_send HSZ.out HK1.out (k := k) (by omega)
          show _ = _
          simpa using this
        go_wp2_with fail
        rw [← hX] at HX0 hX1 ⊢
        clear hX
        go_loopw [7] (fun i wr => ∃ (k : Nat) (A : Option Addr) (c : Nat) (xs : List Int), k ≤ n + 3 ∧ i = .int .i64 k ∧ Below w1.heap.size w1 wr ∧ Hid (xs = tens (min k n) ∧ wr.heap[X]? = some (.cells #[.slice A xs.length c] 25 (0, 0)) ∧ Rd eInt wr wr.heap.size A xs ∧ xs.length ≤ c)) (fun i _ => n + 3 - (intOf i).toNat)
        case atStart => exact ⟨0, none, 0, [], by omega, rfl, HB5.out, by simp [tens], HX0.out, Rd.nil, Nat.le_refl _⟩
        case round =>
          obtain ⟨k, A, c, xs, hk, rfl, hbl, HH⟩ := hrel
          have HB := Lib.hid hbl
          clear hbl
          have hxl : xs.length ≤ 4 := by rw [HH.out.1, tens_len]; omega
          by_cases hlt : k < n + 3
          · have hd : decide ((k : Int) < (n : Int) + 3) = true := decide_eq_true (by omega)
            have HFk := HF k hlt
            obtain ⟨ys, hys⟩ : ∃ ys, ys = tens (min (k + 1) n) := ⟨_, rfl⟩
            obtain ⟨tl, htl⟩ : ∃ tl : Int, tl = if (k : Int) < n then 0 else if kind = 3 then 1 else 0 := ⟨_, rfl⟩
            have T : Hid (Calls Try.prog 14 #[.agg #[.slice A xs.length c], .int .i64 kind, .int .i64 n, .int .i64 (10 + (k : Int))] wr fun e w' => ∃ A' c', e = .returned (.tuple #[.agg #[.slice A' ys.length c'], .int .i64 tl]) ∧ Own eInt 3 w' wr.heap.size (.slice A' ys.length c') ys ∧ ys.length ≤ c' ∧ Below wr.heap.size wr w') := by
              have := callHoldSend A c xs kind n (10 + (k : Int)) wr wr.heap.size (Nat.le_refl _) HH.out.2.2.2 (by omega) HH.out.2.2.1
              rw [HH.out.1, HFk.out, ← hys, ← htl, ← HH.out.1] at this
              exact this
            have HY := Lib.hid hys
            have hw1 : w1.heap.size ≤ wr.heap.size := HB.out.size
            clear hys HFk
            obtain ⟨x1, x2, x3⟩ := cell1 HH.out.2.1
            go_wp2_with fail
            refine T.out.mono ?_
            rintro e w6 ⟨A6, c6, rfl, hown6, hc6, hb6⟩
            have HX6 := Lib.hid (blkc HH.out.2.1 hb6)
            have HX7 := Lib.hid (blkc (set1 (u := .slice A6 ys.length c6) HX6.out) (below1 (w6.setCell ⟨X, 0, none⟩ (.slice A6 ys.length c6)) (.cells #[.slice A6 ys.length c6] 25)))
            have HB6 := Lib.hid (bel_trans ((bel_trans HB.out hb6).setCell (p := ⟨X, 0, none⟩) hX1 (.slice A6 ys.length c6)) (below1 _ (.cells #[.slice A6 ys.length c6] 25)))
            have HR6 := Lib.hid (((hown6.kept (gset (g := X) 0 (.slice A6 ys.length c6)) (fun k hk => by cases hk; exact x3)).alloc (.cells #[.slice A6 ys.length c6] 25)).rd)
            clear hown6 hb6 T x1 x2 HH
            obtain ⟨x1, x2, x4⟩ := cell1 HX6.out
            by_cases hkn : k < n
            · have ht0 : tl = 0 := by rw [htl]; exact if_pos (by omega)
              subst ht0
              clear htl
              have e1 : decide ((n : Int) ≤ (k : Int)) = false := decide_eq_false (by omega)
              have e2 : decide (n ≤ k) = false := decide_eq_false (by omega)
              cases k3 : (kind == 3)
              all_goals
                go_wp2_with fail
                go_roundw
                case rel => exact ⟨k + 1, A6, c6, ys, by omega, by go_num, HB6.out, HY.out, HX7.out, HR6.out, hc6⟩
                case measure => simp [intOf]; omega
            · have e1 : decide ((k : Int) < (n : Int)) = false := decide_eq_false (by omega)
              have e2 : decide (k < n) = false := decide_eq_false (by omega)
              by_cases k3 : kind = 3
              · have ht0 : tl = 1 := by rw [htl, if_neg (by omega), if_pos k3]
                subst ht0
                have n3 : (kind != 3) = false := by rw [k3]; rfl
                clear htl k3
                go_wp2_with fail
                go_roundw
                case rel => exact ⟨k + 1, A6, c6, ys, by omega, by go_num, HB6.out, HY.out, HX7.out, HR6.out, hc6⟩
                case measure => simp [intOf]; omega
              · have ht0 : tl = 0 := by rw [htl, if_neg (by omega), if_neg k3]
                subst ht0
                have n3 : (kind == 3) = false := by rw [beq_eq_false_iff_ne]; exact k3
                clear htl k3
                go_wp2_with fail
                go_roundw
                case rel => exact ⟨k + 1, A6, c6, ys, by omega, by go_num, HB6.out, HY.out, HX7.out, HR6.out, hc6⟩
                case measure => simp [intOf]; omega
          · have hd : decide ((k : Int) < (n : Int) + 3) = false := decide_eq_false (by omega)
            rw [Nat.min_eq_right (by omega)] at HH
            have HE : Hid (xs = tensFrom 0 n) := HH.out.1
            have HG := Lib.hid HH.out.2
            clear HH HF
            go_wp2_with fail
            go_loopw [10] (fun i wx => ∃ (m : Nat) (A : Option Addr) (c : Nat) (xs : List Int), m ≤ n ∧ i = .int .i64 m ∧ Below w1.heap.size w1 wx ∧ Hid (xs = tensFrom m n ∧ wx.heap[X]? = some (.cells #[.slice A xs.length c] 25 (0, 0)) ∧ Rd eInt wx wx.heap.size A xs ∧ xs.length ≤ c)) (fun i _ => n - (intOf i).toNat)
            case atStart => exact ⟨0, A, c, xs, by omega, rfl, HB.out, HE.out, HG.out⟩
            case round =>
              clear HG HE hxl HB
              obtain ⟨m, A2, c2, xs2, hm, rfl, hbl2, HH⟩ := hrel
              rename World => w7
              have HB := Lib.hid hbl2
              clear hbl2
              have hxl : xs2.length ≤ 4 := by rw [HH.out.1]; unfold tensFrom; rw [List.length_drop, tens_len]; omega
              have hw1 : w1.heap.size ≤ w7.heap.size := HB.out.size
              obtain ⟨x1, x2, x3⟩ := cell1 HH.out.2.1
              by_cases hlt2 : m < n
              · have hd2 : decide ((m : Int) < (n : Int)) = true := decide_eq_true (by omega)
                have hd3 : decide (m < n) = true := decide_eq_true hlt2
                obtain ⟨ys, hys⟩ : ∃ ys, ys = tensFrom (m + 1) n := ⟨_, rfl⟩
                have T : Hid (Calls Try.prog 15 #[.agg #[.slice A2 xs2.length c2], .int .i64 kind, .int .i64 n] w7 fun e w' => ∃ A' c', e = .returned (.tuple #[.agg #[.slice A' ys.length c'], .int .i64 (10 + (m : Int))]) ∧ Own eInt 3 w' w7.heap.size (.slice A' ys.length c') ys ∧ ys.length ≤ c' ∧ Below w7.heap.size w7 w') := by
                  have := callHoldTake A2 c2 xs2 kind n w7 w7.heap.size (Nat.le_refl _) HH.out.2.2.2 (by omega) HH.out.2.2.1
                  rw [HH.out.1, full_take HSZ.out HK1.out hlt2 (by omega), ← hys, ← HH.out.1] at this
                  exact this
                have HY := Lib.hid hys
                have hq10 : ((10 + (m : Int)) != (10 + (m : Int))) = false := by simp
                clear hys
                go_wp2_with fail
                refine T.out.mono ?_
                rintro e w8 ⟨A6, c6, rfl, hown6, hc6, hb6⟩
                have HX6 := Lib.hid (blkc HH.out.2.1 hb6)
                have HX7 := Lib.hid (blkc (set1 (u := .slice A6 ys.length c6) HX6.out) (below1 (w8.setCell ⟨X, 0, none⟩ (.slice A6 ys.length c6)) (.cells #[.slice A6 ys.length c6] 25)))
                have HB6 := Lib.hid (bel_trans ((bel_trans HB.out hb6).setCell (p := ⟨X, 0, none⟩) hX1 (.slice A6 ys.length c6)) (below1 _ (.cells #[.slice A6 ys.length c6] 25)))
                have HR6 := Lib.hid (((hown6.kept (gset (g := X) 0 (.slice A6 ys.length c6)) (fun k hk => by cases hk; exact x3)).alloc (.cells #[.slice A6 ys.length c6] 25)).rd)
                clear hown6 hb6 T x1 x2 HH
                obtain ⟨x1, x2, x4⟩ := cell1 HX6.out
                go_wp2_with fail
                go_roundw
                case rel => exact ⟨m + 1, A6, c6, ys, by omega, by go_num, HB6.out, HY.out, HX7.out, HR6.out, hc6⟩
                case measure => simp [intOf]; omega
              · have hme : m = n := by omega
                subst hme
                have hd2 : decide ((m : Int) < (m : Int)) = false := by simp
                have T : Hid (Calls Try.prog 15 #[.agg #[.slice A2 xs2.length c2], .int .i64 kind, .int .i64 m] w7 fun e w' => ∃ A' c', e = .returned (.tuple #[.agg #[.slice A' 0 c'], .int .i64 (-1)]) ∧ Below w7.heap.size w7 w') := by
                  have := callHoldTake A2 c2 xs2 kind m w7 w7.heap.size (Nat.le_refl _) HH.out.2.2.2 (by omega) HH.out.2.2.1
                  rw [HH.out.1, full_none, ← HH.out.1] at this
                  refine this.mono ?_
                  rintro e w' ⟨A', c', he, _, _, hb⟩
                  exact ⟨A', c', he, hb⟩
                go_wp2_with fail
                refine T.out.mono ?_
                rintro e w8 ⟨A6, c6, rfl, hb6⟩
                go_wp2
                go_ret
                exact ⟨rfl, bel_trans HB1.out (bel_trans (bel_trans HB.out hb6) (below1 _ _))⟩
  · have hl' : 1048576 < bs.length := by omega
    clear hr hby hl
    go_enter Try.func3, Try.ntmps3
    go_wp2
    go_ret
    exact ⟨rfl, Below.refl _ _⟩
end Go.Proofs.Ytonhkadbiepedaa
