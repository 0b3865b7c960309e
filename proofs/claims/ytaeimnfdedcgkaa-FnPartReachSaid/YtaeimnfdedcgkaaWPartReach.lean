/- The walk of the law FnPartReach: true for every input, and nothing that was there is written. -/
import Derived.Test.YtaeimnfdedcgkaaDrp
namespace Go.Proofs.Ytaeimnfdedcgkaa
open Go.RowKit Go.Sort

/-! ### The plain law: a partition reaches at most as many places as its windows have together, and at least as many as the largest one has -/

theorem cnt_or (p q : Nat → Bool) : ∀ n, cnt (fun i => p i || q i) n ≤ cnt p n + cnt q n
  | 0 => Nat.le_refl _
  | n + 1 => by
    unfold cnt
    have := cnt_or p q n
    cases p n <;> cases q n <;> simp <;> omega

theorem cnt_range (a s : Nat) (p : Nat → Bool) (hp : ∀ i, p i = true ↔ a ≤ i ∧ i < a + s) : ∀ n, cnt p n = min n (a + s) - min n a
  | 0 => by simp [cnt]
  | n + 1 => by
    unfold cnt
    rw [cnt_range a s p hp n]
    cases h : p n
    · have : ¬ (a ≤ n ∧ n < a + s) := fun hh => by rw [(hp n).2 hh] at h; cases h
      simp only [Bool.false_eq_true, if_false]
      omega
    · have := (hp n).1 h
      simp only [if_true]
      omega

theorem cnt_win {x : Win} (h : winOk x = true) : (cnt (fun i => winHas (i : Int) x) 4096 : Int) = x.size := by
  obtain ⟨h1, h2, h3, h4⟩ := winOk_iff.1 h
  obtain ⟨a, ha⟩ := Int.eq_ofNat_of_zero_le h1
  obtain ⟨s, hs⟩ := Int.eq_ofNat_of_zero_le (show 0 ≤ x.size by omega)
  rw [cnt_range a s _ (fun i => by unfold winHas; rw [inB_iff, ha, hs]; omega)]
  rw [hs]
  omega

def sumTo (ws : List Win) : Nat → Int
  | 0 => 0
  | k + 1 => sumTo ws k + ((ws[k]?.map Win.size).getD 0)
def maxTo (ws : List Win) : Nat → Int
  | 0 => 0
  | k + 1 => max (maxTo ws k) ((ws[k]?.map Win.size).getD 0)

theorem sumTo_cons (x : Win) (ws : List Win) : ∀ k, sumTo (x :: ws) (k + 1) = x.size + sumTo ws k
  | 0 => by simp [sumTo]
  | k + 1 => by
    rw [sumTo, sumTo_cons x ws k]
    simp only [List.getElem?_cons_succ, sumTo]
    omega

theorem reach_sum : ∀ (ws : List Win), (∀ x, x ∈ ws → winOk x = true) → (cnt (fun i => ws.any (winHas (i : Int))) 4096 : Int) ≤ sumTo ws ws.length
  | [], _ => by
    have h : ∀ n, cnt (fun i => ([] : List Win).any (winHas (i : Int))) n = 0 := fun n => by
      induction n with
      | zero => rfl
      | succ n ih => unfold cnt; rw [ih]; simp
    rw [h]; decide
  | x :: ws, h => by
    have ih := reach_sum ws (fun y hy => h y (by simp [hy]))
    have h1 := cnt_win (h x (by simp))
    have h2 := cnt_or (fun i => winHas (i : Int) x) (fun i => ws.any (winHas (i : Int))) 4096
    rw [List.length_cons, sumTo_cons]
    simp only [List.any_cons]
    omega

theorem reach_max (ws : List Win) (h : ∀ x, x ∈ ws → winOk x = true) : ∀ k, k ≤ ws.length → maxTo ws k ≤ (cnt (fun i => ws.any (winHas (i : Int))) 4096 : Int)
  | 0, _ => by simp [maxTo]
  | k + 1, hk => by
    have ih := reach_max ws h k (by omega)
    have hx : ws[k]? = some ws[k] := List.getElem?_eq_getElem (by omega)
    have h1 := cnt_win (h ws[k] (List.getElem_mem (by omega)))
    have h2 := cnt_mono (p := fun i => winHas (i : Int) ws[k]) (q := fun i => ws.any (winHas (i : Int))) (fun i hi => by rw [List.any_eq_true]; exact ⟨_, List.getElem_mem (by omega), hi⟩) 4096
    rw [maxTo, hx]
    simp only [Option.map_some, Option.getD_some]
    omega

theorem sumTo_bd (ws : List Win) (h : ∀ x, x ∈ ws → winOk x = true) : ∀ k, k ≤ ws.length → 0 ≤ sumTo ws k ∧ sumTo ws k ≤ 4096 * k
  | 0, _ => by simp [sumTo]
  | k + 1, hk => by
    have ih := sumTo_bd ws h k (by omega)
    obtain ⟨h1, h2, h3, h4⟩ := winOk_iff.1 (h ws[k] (List.getElem_mem (by omega)))
    rw [sumTo, List.getElem?_eq_getElem (by omega)]
    simp only [Option.map_some, Option.getD_some]
    omega

set_option maxRecDepth 100000 in
set_option maxHeartbeats 3200000 in
theorem walkFnPartReach (A : Option Addr) (c : Nat) (bs : List Int) (w : World) (hc : bs.length ≤ c) (hr : Rd eU8 w w.heap.size A bs) (hby : ∀ x ∈ bs, 0 ≤ x ∧ x ≤ 255) :
    Calls Try.prog 4 #[.slice A bs.length c] w fun e w' => e = .returned (.bool true) ∧ Below w.heap.size w w' := by
  by_cases hl : bs.length ≤ 1048576
  · have HC := Lib.hid (callDrawPartReach A c bs w hc hl hr hby)
    clear hr hby
    go_enter Try.func4, Try.ntmps4
    go_wp2_with fail
    refine HC.out.mono ?_
    rintro e w1 ⟨A, c, ps, n, rfl, hrd, hlen, hb1⟩
    have HX : Hid (RdP w1 w1.heap.size A ps ∧ ps.length ≤ 1073741824) := ⟨hrd, by omega⟩
    have HB1 := Lib.hid hb1
    clear hrd hb1 hlen HC
    go_wp2_with fail
    refine (callReach A c ps n _ w1.heap.size (Nat.le_refl _) HX.out.2 HX.out.1).mono ?_
    rintro e w2 ⟨rfl, hb2⟩
    have HB2 := Lib.hid hb2
    clear hb2
    generalize hok : shared ps n n = m
    have HOK := Lib.hid hok
    clear hok
    go_wp2_with fail
    refine (callSReach A c ps n _ w1.heap.size HB2.out.size HX.out.2 (HX.out.1.below HB2.out)).mono ?_
    rintro e w3 ⟨rfl, hb3⟩
    rw [HOK.out]
    have HB3 := Lib.hid (bel_trans HB2.out hb3)
    clear hb3 HB2
    have hnn : (m != m) = false := by simp
    by_cases hn : m < 0
    · have hm1 : (m == -1) = true := by
        have h := HOK.out
        unfold shared at h
        split at h
        · split at h
          · omega
          · rw [beq_iff_eq]; exact h.symm
        · rw [beq_iff_eq]; exact h.symm
      go_wp2_with fail
      refine (callAlive _).mono ?_
      rintro e w4 ⟨rfl, hb4⟩
      go_wp2
      go_ret
      exact ⟨rfl, bel_trans HB1.out (bel_trans HB3.out hb4)⟩
    · have hv : prtsOk ps = true ∧ 0 ≤ n ∧ n < ps.length := by
        have h := HOK.out
        unfold shared at h
        split at h
        · rename_i hh
          rw [Bool.and_eq_true, Bool.and_eq_true] at hh
          have := inB_iff.1 hh.2
          exact ⟨hh.1.1, by omega, by omega⟩
        · omega
      obtain ⟨hv1, hv2, hv3⟩ := hv
      obtain ⟨kn, rfl⟩ := Int.eq_ofNat_of_zero_le hv2
      have hkn : kn < ps.length := by omega
      have hp := prtsOk_mem hv1 (List.getElem_mem hkn)
      have hwo := fun x hx => winsOk_mem (prtOk_wins hp) (x := x) hx
      have hm2 : m = (cnt (fun i => rdsP ps[kn] i) 4096 : Nat) := by
        have h := HOK.out
        unfold shared at h
        rw [hv1, inB_iff.2 (show (0 : Int) ≤ kn ∧ (kn : Int) ≤ (ps.length : Int) - 1 by omega)] at h
        simp only [Bool.and_self, if_true, Int.toNat_natCast, List.getElem?_eq_getElem hkn] at h
        rw [← h]
      have P1 : Hid (m ≤ sumTo ps[kn].wins ps[kn].wins.length) := by have := reach_sum ps[kn].wins hwo; show _ ≤ _; rw [hm2]; exact this
      have P2 : Hid (maxTo ps[kn].wins ps[kn].wins.length ≤ m) := by have := reach_max ps[kn].wins hwo _ (Nat.le_refl _); show _ ≤ _; rw [hm2]; exact this
      have HW : Hid ((∀ x, x ∈ ps[kn].wins → winOk x = true) ∧ ps[kn].wins.length ≤ 12) := ⟨hwo, winsOk_len (prtOk_wins hp)⟩
      have hwl := HW.out.2
      clear hwo hp hm2 hv1 hv2 hv3
      go_wp2_with fail
      go_loopw [6, 7, 8] (fun s t i wr => ∃ k : Nat, k ≤ ps[kn].wins.length ∧ i = .int .i64 k ∧ s = .int .i64 (sumTo ps[kn].wins k) ∧ t = .int .i64 (maxTo ps[kn].wins k) ∧ wr = w3) (fun _ _ i _ => ps[kn].wins.length - (intOf i).toNat)
      case atStart => exact ⟨0, by omega, rfl, rfl, rfl, rfl⟩
      case round =>
        obtain ⟨k, hk, rfl, rfl, rfl, rfl⟩ := hrel
        obtain ⟨b, off, rfl, hbB, h1, h2⟩ := (HX.out.1.1.below HB3.out).at2 rfl hkn rfl
        by_cases hlt : k < ps[kn].wins.length
        · obtain ⟨b2, off2, hA2, hbB2, g1, g2, g3⟩ := ((HX.out.1.wins hkn).1.below HB3.out).at3 rfl hlt rfl
          rw [hA2] at h1
          have sb := sumTo_bd ps[kn].wins HW.out.1 k (by omega)
          obtain ⟨x1, x2, x3, x4⟩ := winOk_iff.1 (HW.out.1 _ (List.getElem_mem hlt))
          have ES : Hid (sumTo ps[kn].wins (k + 1) = sumTo ps[kn].wins k + ps[kn].wins[k].size) := by show sumTo _ _ = _; rw [sumTo, List.getElem?_eq_getElem hlt]; rfl
          have EM : Hid (maxTo ps[kn].wins (k + 1) = max (maxTo ps[kn].wins k) ps[kn].wins[k].size) := by show maxTo _ _ = _; rw [maxTo, List.getElem?_eq_getElem hlt]; rfl
          have HA2 := Lib.hid hA2
          clear hA2
          generalize sumTo ps[kn].wins k = S at *
          generalize maxTo ps[kn].wins k = T at *
          generalize ps[kn].wins[k].size = z at *
          go_wp2
          go_roundw
          case rel => exact ⟨k + 1, by omega, by go_num, by rw [ES.out], by rw [EM.out]; exact congrArg (Value.int .i64) (by split <;> omega), trivial⟩
          case measure => simp [intOf]; omega
        · have hke : k = ps[kn].wins.length := by omega
          subst hke
          have p1 := P1.out
          have p2 := P2.out
          generalize sumTo ps[kn].wins ps[kn].wins.length = S at *
          generalize maxTo ps[kn].wins ps[kn].wins.length = T at *
          go_wp2
          go_ret
          exact ⟨rfl, bel_trans HB1.out HB3.out⟩
  · have hl' : 1048576 < bs.length := by omega
    clear hr hby hl
    go_enter Try.func4, Try.ntmps4
    go_wp2
    go_ret
    exact ⟨rfl, Below.refl _ _⟩
end Go.Proofs.Ytaeimnfdedcgkaa
