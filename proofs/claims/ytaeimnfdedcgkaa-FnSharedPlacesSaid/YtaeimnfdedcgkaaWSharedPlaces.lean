/- The walk of the law FnSharedPlaces: true for every input, and nothing that was there is written. -/
import Derived.Test.YtaeimnfdedcgkaaDrp
namespace Go.Proofs.Ytaeimnfdedcgkaa
open Go.RowKit Go.Sort

theorem shared_comm (ps : List Prt) (a b : Int) : shared ps b a = shared ps a b := by
  unfold shared
  rw [Bool.and_assoc, Bool.and_comm (inB b 0 _), ← Bool.and_assoc]
  split
  · cases ps[a.toNat]? <;> cases ps[b.toNat]?
    · rfl
    · rfl
    · rfl
    · simp only
      rw [cnt_congr (fun i => Bool.and_comm _ _)]
  · rfl

theorem shared_le (ps : List Prt) (a b : Int) (h : 0 ≤ shared ps a b) : shared ps a b ≤ shared ps a a := by
  unfold shared at *
  split at h
  · rename_i hh
    rw [if_pos hh]
    rw [Bool.and_eq_true] at hh
    rw [if_pos (show (prtsOk ps && inB a 0 (ps.length - 1) && inB a 0 (ps.length - 1)) = true by rw [Bool.and_eq_true]; rw [Bool.and_eq_true] at hh; exact ⟨by rw [Bool.and_eq_true]; exact hh.1, hh.1.2⟩)]
    cases h1 : ps[a.toNat]? <;> cases h2 : ps[b.toNat]?
    · simp
    · simp
    · rw [h1, h2] at h; simp at h
    · rename_i p q
      simp only
      have := cnt_mono (p := fun i => rdsP p i && rdsP q i) (q := fun i => rdsP p i && rdsP p i) (fun i hi => by rw [Bool.and_eq_true] at hi; rw [hi.1]; rfl) 4096
      omega
  · omega

theorem shared_neg (ps : List Prt) (a b : Int) (h : shared ps a b < 0) : shared ps a b = -1 := by
  unfold shared at *
  split at h
  · rename_i hh
    rw [if_pos hh]
    split at h
    · omega
    · rename_i hx
      cases h1 : ps[a.toNat]? <;> cases h2 : ps[b.toNat]?
      · rfl
      · rfl
      · rfl
      · exact absurd h2 (fun h2 => hx _ _ h1 h2)
  · rename_i hh
    rw [if_neg hh]

set_option maxRecDepth 100000 in
set_option maxHeartbeats 3200000 in
theorem walkFnSharedPlaces (A : Option Addr) (c : Nat) (bs : List Int) (w : World) (hc : bs.length ≤ c) (hr : Rd eU8 w w.heap.size A bs) (hby : ∀ x ∈ bs, 0 ≤ x ∧ x ≤ 255) :
    Calls Try.prog 5 #[.slice A bs.length c] w fun e w' => e = .returned (.bool true) ∧ Below w.heap.size w w' := by
  by_cases hl : bs.length ≤ 1048576
  · have HC := Lib.hid (callDrawSharedPlaces A c bs w hc hl hr hby)
    clear hr hby
    go_enter Try.func5, Try.ntmps5
    go_wp2_with fail
    refine HC.out.mono ?_
    rintro e w1 ⟨A, c, ps, a, b, rfl, hrd, hlen, hb1⟩
    have HX : Hid (RdP w1 w1.heap.size A ps ∧ ps.length ≤ 1073741824) := ⟨hrd, by omega⟩
    have HB1 := Lib.hid hb1
    clear hrd hb1 hlen HC
    go_wp2_with fail
    refine (callShared A c ps a b _ w1.heap.size (Nat.le_refl _) HX.out.2 HX.out.1).mono ?_
    rintro e w2 ⟨rfl, hb2⟩
    have HB2 := Lib.hid hb2
    clear hb2
    have N1 := Lib.hid (shared_neg ps a b)
    have N2 := Lib.hid (shared_le ps a b)
    have N3 : Hid (0 ≤ shared ps a b → shared ps a b ≤ shared ps b b) := fun h => by have := shared_le ps b a (by rw [shared_comm]; exact h); rw [shared_comm] at this; exact this
    have N4 := Lib.hid (shared_comm ps a b)
    generalize hok : shared ps a b = m at *
    have HOK := Lib.hid hok
    clear hok
    go_wp2_with fail
    refine (callSShared A c ps a b _ w1.heap.size HB2.out.size HX.out.2 (HX.out.1.below HB2.out)).mono ?_
    rintro e w3 ⟨rfl, hb3⟩
    rw [HOK.out]
    have HB3 := Lib.hid (bel_trans HB2.out hb3)
    clear hb3 HB2
    have hnn : (m != m) = false := by simp
    by_cases hn : m < 0
    · have hm1 : (m == -1) = true := by rw [beq_iff_eq]; exact N1.out hn
      go_wp2_with fail
      refine (callAlive _).mono ?_
      rintro e w4 ⟨rfl, hb4⟩
      go_wp2
      go_ret
      exact ⟨rfl, bel_trans HB1.out (bel_trans HB3.out hb4)⟩
    · have n2 := N2.out (by omega)
      have n3 := N3.out (by omega)
      go_wp2_with fail
      refine (callShared A c ps b a _ w1.heap.size HB3.out.size HX.out.2 (HX.out.1.below HB3.out)).mono ?_
      rintro e w4 ⟨rfl, hb4⟩
      rw [N4.out]
      have HB4 := Lib.hid (bel_trans HB3.out hb4)
      have hmm : (m == m) = true := by simp
      clear hb4 HB3
      go_wp2_with fail
      refine (callReach A c ps a _ w1.heap.size HB4.out.size HX.out.2 (HX.out.1.below HB4.out)).mono ?_
      rintro e w5 ⟨rfl, hb5⟩
      have HB5 := Lib.hid (bel_trans HB4.out hb5)
      clear hb5 HB4
      generalize shared ps a a = u at *
      go_wp2_with fail
      refine (callReach A c ps b _ w1.heap.size HB5.out.size HX.out.2 (HX.out.1.below HB5.out)).mono ?_
      rintro e w6 ⟨rfl, hb6⟩
      have HB6 := Lib.hid (bel_trans HB5.out hb6)
      clear hb6 HB5
      generalize shared ps b b = v at *
      go_wp2_with fail
      refine (callShared A c ps a a _ w1.heap.size HB6.out.size HX.out.2 (HX.out.1.below HB6.out)).mono ?_
      rintro e w7 ⟨rfl, hb7⟩
      have HB7 := Lib.hid (bel_trans HB6.out hb7)
      clear hb7 HB6
      go_wp2_with fail
      refine (callReach A c ps a _ w1.heap.size HB7.out.size HX.out.2 (HX.out.1.below HB7.out)).mono ?_
      rintro e w8 ⟨rfl, hb8⟩
      have hss : (shared ps a a == shared ps a a) = true := by simp
      go_wp2
      go_ret
      exact ⟨rfl, bel_trans HB1.out (bel_trans HB7.out hb8)⟩
  · have hl' : 1048576 < bs.length := by omega
    clear hr hby hl
    go_enter Try.func5, Try.ntmps5
    go_wp2
    go_ret
    exact ⟨rfl, Below.refl _ _⟩
end Go.Proofs.Ytaeimnfdedcgkaa
