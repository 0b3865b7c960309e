/- RunCore and NewCore of the program, for every input. -/
import Derived.Test.YtiodpnhokjkjaaaCok
namespace Go.Proofs.Ytiodpnhokjkjaaa
open Go.RowKit Go.Sort

theorem runCore_bad {cr : Cor} {os : List Ord3} {cells steps : Int} (h : (coreB cr os cells && inB steps 0 200) = false) : runCore cr os cells steps = ⟨[], 0, false⟩ := by
  unfold runCore; rw [h]; rfl
theorem runCore_good {cr : Cor} {os : List Ord3} {cells : Int} {n : Nat} (h : coreB cr os cells = true) (hn : inB (n : Int) 0 200 = true) : runCore cr os cells n = corRun cr os n := by
  unfold runCore; rw [h, hn]; rfl
/-- The loop of RunCore: the core in its box. -/
structure RCS (w : World) (X B0 : Nat) (A : Option Addr) (c : Nat) (cr : Cor) (wx : World) : Prop where
  bel : Below B0 w wx
  box : wx.heap[X]? = some (.cells #[.slice A cr.cs.length c, .int .i64 cr.at', .bool cr.stop] 33 (0, 0))
  own : Own eInt 3 wx B0 (.slice A cr.cs.length c) cr.cs

set_option maxHeartbeats 800000 in
theorem callNewCore (n : Nat) (w : World) (h1 : 1 ≤ n) (h8 : n ≤ 8) : Calls Try.prog 39 #[.int .i64 n] w (CorRes w ⟨List.replicate n 0, 0, false⟩) := by
  have hq : inB (n : Int) 1 8 = true := inB_iff.2 ⟨by omega, by omega⟩
  have K := Lib.hid (heap_alloc_new w (.cells #[.slice none 0 0, .int .i64 0, .bool false] 33))
  obtain ⟨r, hr⟩ : ∃ r : List Int, r = List.replicate n 0 := ⟨_, rfl⟩
  have hrl : n = r.length := by rw [hr, List.length_replicate]
  rw [← hr]
  have HR := Lib.hid hr
  clear hr
  subst hrl
  go_enter Try.func39, Try.ntmps39
  go_wp2_with (first
    | (go_at_call 49; refine (callIn _ _ _ _).mono ?_; rintro e w' ⟨rfl, rfl⟩)
    | (at_make; refine wpList_mkE (E := eInt) _ Try.underlying31 (z := .int .i64 0) (m := 8) (by kernel_rfl) (by decide) (0 : Int) rfl rfl _ _ rfl (w.heap.size + 1) r.length r.length r.length rfl rfl rfl rfl (by omega) (by simp) ?_; intro w4 hown4' hb4; rw [← HR.out] at hown4'; have HO4 := Lib.hid hown4'; have HB4 := Lib.hid (bel_trans (below1 w (.cells #[.slice none 0 0, .int .i64 0, .bool false] 33)) hb4); have J4 := Lib.hid (blkc K.out hb4); clear hown4' hb4; obtain ⟨y0, y1, y2, y3, y4, y5, y6⟩ := cell3 J4.out; obtain ⟨s0, s1, s2⟩ := res3 J4.out (.slice (some ⟨w.heap.size + 1, 0, none⟩) r.length r.length) (.int .i64 0) (.bool false)))
  exact bodyPost_ret (v := .agg #[.slice (some ⟨w.heap.size + 1, 0, none⟩) r.length r.length, .int .i64 0, .bool false]) (by simp [results, Try.results39, go_sem, s0, s1, s2]) rfl ⟨some ⟨w.heap.size + 1, 0, none⟩, r.length, rfl, (by have h := HO4.out; simp only [World.size_alloc] at h; exact (h.kept (gset3 _ _ _) (fun k hk => by cases hk; omega)).more (by omega)), Nat.le_refl _, bset3 HB4.out (Nat.le_refl _) _ _ _⟩

set_option maxRecDepth 100000 in
set_option maxHeartbeats 3200000 in
theorem callRunCore (A : Option Addr) (c : Nat) (cr : Cor) (Ao : Option Addr) (co : Nat) (os : List Ord3) (cells steps : Int) (w : World) (B : Nat) (hB : B ≤ w.heap.size) (hc : cr.cs.length ≤ c) (hm : cr.cs.length ≤ 1048576) (hm2 : os.length ≤ 1048576) (hr : Rd eInt w B A cr.cs) (hr2 : Rd eOrd w B Ao os) :
    Calls Try.prog 19 #[.agg #[.slice A cr.cs.length c, .int .i64 cr.at', .bool cr.stop], .slice Ao os.length co, .int .i64 cells, .int .i64 steps] w (CorRes w (runCore cr os cells steps)) := by
  have V := Lib.hid (callCoreValid A c cr Ao co os cells ((w.alloc (.cells #[.slice A cr.cs.length c, .int .i64 cr.at', .bool cr.stop] 33)).alloc (.cells #[.slice none 0 0, .int .i64 0, .bool false] 33)) B (by simp; omega) hm hm2 (hr.below ((below2 _ _ _).mono hB)) (hr2.below ((below2 _ _ _).mono hB)))
  have K0 := Lib.hid (alloc_at0 w (.cells #[.slice A cr.cs.length c, .int .i64 cr.at', .bool cr.stop] 33) (.cells #[.slice none 0 0, .int .i64 0, .bool false] 33))
  have K1 := Lib.hid (alloc_at1 w (.cells #[.slice A cr.cs.length c, .int .i64 cr.at', .bool cr.stop] 33) (.cells #[.slice none 0 0, .int .i64 0, .bool false] 33))
  have HBAD : Hid ((coreB cr os cells && inB steps 0 200) = false → runCore cr os cells steps = ⟨[], 0, false⟩) := runCore_bad
  have HGOOD : Hid (∀ n : Nat, steps = n → coreB cr os cells = true → inB (n : Int) 0 200 = true → runCore cr os cells steps = corRun cr os n) := fun n e h h' => by rw [e]; exact runCore_good h h'
  have HRA := Lib.hid hr
  have HRO := Lib.hid hr2
  obtain ⟨r, hrr⟩ : ∃ r, r = runCore cr os cells steps := ⟨_, rfl⟩
  rw [← hrr] at HBAD HGOOD ⊢
  clear hr hr2 hrr
  cases q1 : coreB cr os cells
  · rw [q1] at V
    obtain rfl := HBAD.out (by rw [q1]; rfl)
    clear HBAD HGOOD q1
    go_enter Try.func19, Try.ntmps19
    go_wp2_with fail
    refine V.out.mono ?_
    rintro e w1 ⟨rfl, hb1⟩
    have HB1 := Lib.hid (bel_trans (below2 w _ _) hb1)
    have KR := Lib.hid (blkc K1.out hb1)
    clear hb1
    obtain ⟨a0, a1, a2, a3, a4, a5, a6⟩ := cell3 KR.out
    obtain ⟨s0, s1, s2⟩ := res3 KR.out (.slice none 0 0) (.int .i64 0) (.bool false)
    go_wp2
    exact bodyPost_ret (v := .agg #[.slice none 0 0, .int .i64 0, .bool false]) (by simp [results, Try.results19, go_sem, s0, s1, s2]) rfl ⟨none, 0, rfl, Own.none_, Nat.le_refl _, bset3 HB1.out (by omega) _ _ _⟩
  · cases q2 : inB steps 0 200
    · rw [q1] at V
      obtain rfl := HBAD.out (by rw [q1, q2]; rfl)
      clear HBAD HGOOD q1
      go_enter Try.func19, Try.ntmps19
      go_wp2_with fail
      refine V.out.mono ?_
      rintro e w1 ⟨rfl, hb1⟩
      have HB1 := Lib.hid (bel_trans (below2 w _ _) hb1)
      have KR := Lib.hid (blkc K1.out hb1)
      clear hb1
      obtain ⟨a0, a1, a2, a3, a4, a5, a6⟩ := cell3 KR.out
      obtain ⟨s0, s1, s2⟩ := res3 KR.out (.slice none 0 0) (.int .i64 0) (.bool false)
      go_wp2_with (go_at_call 49; refine (callIn _ _ _ _).mono ?_; rintro e w' ⟨rfl, rfl⟩)
      exact bodyPost_ret (v := .agg #[.slice none 0 0, .int .i64 0, .bool false]) (by simp [results, Try.results19, go_sem, s0, s1, s2]) rfl ⟨none, 0, rfl, Own.none_, Nat.le_refl _, bset3 HB1.out (by omega) _ _ _⟩
    · have hs := inB_iff.1 q2
      obtain ⟨n, hn⟩ := Int.eq_ofNat_of_zero_le hs.1
      subst hn
      have HG := Lib.hid (HGOOD.out n rfl q1 q2)
      have hn200 : n ≤ 200 := by omega
      have HOK := Lib.hid q1
      have HRL := Lib.hid (corRun_len q1)
      have HRK := Lib.hid (corRun_ok q1)
      rw [q1] at V
      clear HBAD HGOOD q1
      go_enter Try.func19, Try.ntmps19
      go_wp2_with fail
      refine V.out.mono ?_
      rintro e w1 ⟨rfl, hb1⟩
      have HB1 := Lib.hid (bel_trans (below2 w (.cells #[.slice A cr.cs.length c, .int .i64 cr.at', .bool cr.stop] 33) (.cells #[.slice none 0 0, .int .i64 0, .bool false] 33)) hb1)
      have KB := Lib.hid (blkc K0.out hb1)
      have KR := Lib.hid (blkc K1.out hb1)
      have hs1 : w.heap.size + 1 < w1.heap.size := (cell3 KR.out).2.2.2.2.2.2
      obtain ⟨b0, b1, b2, b3, b4, b5, b6⟩ := cell3 KB.out
      clear hb1 V K0 K1
      go_wp2_with (go_at_call 49; refine (callIn _ _ _ _).mono ?_; rintro e w' ⟨rfl, rfl⟩)
      refine (callCopyOf A c cr w1 B (Nat.le_trans hB HB1.out.size) hc hm (HRA.out.below (HB1.out.mono hB))).mono ?_
      rintro e w2 ⟨A2, c2, rfl, hown2, hc2, hb2⟩
      have S0 : Hid (RCS w1 w2.heap.size w1.heap.size A2 c2 (corRun cr os 0) (w2.alloc (.cells #[.slice A2 cr.cs.length c2, .int .i64 cr.at', .bool cr.stop] 33))) :=
        ⟨bel_trans hb2 (below1 _ _), heap_alloc_new _ _, hown2.alloc _⟩
      go_upto_region 4 with (fail)
      obtain ⟨X, hX⟩ : ∃ X, X = w2.heap.size := ⟨_, rfl⟩
      have hXs : w1.heap.size ≤ X := by have := hb2.size; omega
      rw [← hX] at S0 ⊢
      clear hX hown2 hb2 b0 b1 b2 b3 b4 b5 b6
      go_wp2_with fail
      go_loopw [25] (fun i wr => ∃ k : Nat, k ≤ n ∧ i = .int .i64 k ∧ Hid (RCS w1 X w1.heap.size A2 c2 (corRun cr os k) wr)) (fun i _ => n - (intOf i).toNat)
      case atStart => exact ⟨0, by omega, rfl, S0.out⟩
      case round =>
        clear S0
        obtain ⟨k, hk, rfl, SR⟩ := hrel
        have HRr := Lib.hid (HRO.out.below ((HB1.out.trans (SR.out.bel.mono HB1.out.size)).mono hB))
        by_cases hlt : k < n
        · have hd : decide ((k : Int) < (n : Int)) = true := decide_eq_true (by omega)
          have hd2 : decide (k < n) = true := decide_eq_true hlt
          have CS := Lib.hid (callStep X w1.heap.size w1.heap.size B A2 c2 (corRun cr os k) Ao co os cells (k : Int) wr SR.out.box SR.out.own (HRK.out k) (by omega) hXs (Nat.le_refl _) SR.out.bel.size (Nat.le_trans hB HB1.out.size) HRr.out)
          go_wp2_with fail
          refine CS.out.mono ?_
          rintro e w5 ⟨rfl, hx5, ho5, hb5⟩
          have S5 : Hid (RCS w1 X w1.heap.size A2 c2 (corRun cr os (k + 1)) w5) := ⟨SR.out.bel.trans hb5, hx5, ho5⟩
          clear hx5 ho5 hb5 CS
          go_wp2_with fail
          go_roundw
          case rel => exact ⟨k + 1, by omega, by go_num, S5.out⟩
          case measure => simp [intOf]; omega
        · have hd : decide ((k : Int) < (n : Int)) = false := decide_eq_false (by omega)
          have hd2 : decide (k < n) = false := decide_eq_false hlt
          have hke : n = k := by omega
          rw [hke] at HG
          clear hke
          have KRr := Lib.hid (blkn KR.out SR.out.bel (by omega))
          obtain ⟨x0, x1, x2, x3, x4, x5, x6⟩ := cell3 SR.out.box
          obtain ⟨y0, y1, y2, y3, y4, y5, y6⟩ := cell3 KRr.out
          have HL := HRL.out k
          have hcc : (corRun cr os k).cs.length ≤ c2 := by rw [HL]; exact hc2
          have HBr := Lib.hid (HB1.out.trans (SR.out.bel.mono HB1.out.size))
          have HOr := Lib.hid SR.out.own
          obtain ⟨rr, hrr⟩ : ∃ rr, rr = corRun cr os k := ⟨_, rfl⟩
          rw [← hrr] at HG x0 x1 x2 hcc HOr
          clear hrr HL HRL HRK
          obtain ⟨s0, s1, s2⟩ := res3 KRr.out (.slice A2 rr.cs.length c2) (.int .i64 rr.at') (.bool rr.stop)
          go_wp2_with fail
          exact bodyPost_ret (v := .agg #[.slice A2 rr.cs.length c2, .int .i64 rr.at', .bool rr.stop]) (by simp [results, Try.results19, go_sem, s0, s1, s2]) rfl (by rw [HG.out]; exact ⟨A2, c2, rfl, (HOr.out.kept (gset3 _ _ _) (fun k hk => by cases hk; omega)).more (by omega), hcc, bset3 HBr.out (by omega) _ _ _⟩)
end Go.Proofs.Ytiodpnhokjkjaaa
