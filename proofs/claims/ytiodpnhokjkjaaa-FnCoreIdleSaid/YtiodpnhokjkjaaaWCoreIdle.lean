/- The walk of the law FnCoreIdle: true for every input, and nothing that was there is written. -/
import Derived.Test.YtiodpnhokjkjaaaCou
import Derived.Test.YtiodpnhokjkjaaaCol
import Derived.Test.YtiodpnhokjkjaaaSco
import Derived.Test.YtiodpnhokjkjaaaWin
import Derived.Deep.RegionHeld3
namespace Go.Proofs.Ytiodpnhokjkjaaa
open Go.RowKit Go.Sort

set_option maxRecDepth 100000 in
set_option maxHeartbeats 3200000 in
theorem walkFnCoreIdle (A : Option Addr) (c : Nat) (bs : List Int) (A2 : Option Addr) (c2 : Nat) (bs2 : List Int) (w : World) (_hc : bs.length ≤ c) (_hr : Rd eU8 w w.heap.size A bs) (_hby : ∀ x ∈ bs, 0 ≤ x ∧ x ≤ 255) (_hc2 : bs2.length ≤ c2) (_hr2 : Rd eU8 w w.heap.size A2 bs2) (_hby2 : ∀ x ∈ bs2, 0 ≤ x ∧ x ≤ 255) :
    Calls Try.prog 10 #[.slice A bs.length c, .slice A2 bs2.length c2] w fun e w' => e = .returned (.bool true) ∧ Below w.heap.size w w' := by
  clear _hc _hr _hby _hc2 _hr2 _hby2
  obtain ⟨l1, h1⟩ : ∃ l1, l1 = bs.length := ⟨_, rfl⟩
  obtain ⟨l2, h2⟩ : ∃ l2, l2 = bs2.length := ⟨_, rfl⟩
  rw [← h1, ← h2]
  clear h1 h2 bs bs2
  by_cases hl : l1 ≤ 1048576
  · by_cases hl2 : l2 ≤ 1048576
    · have hd1 : decide ((l1 : Int) > 1048576) = false := decide_eq_false (by omega)
      have hd2 : decide ((l2 : Int) > 1048576) = false := decide_eq_false (by omega)
      obtain ⟨n, hn⟩ : ∃ n, n = l2 % 201 := ⟨_, rfl⟩
      obtain ⟨m, hm⟩ : ∃ m, m = l1 % 20 := ⟨_, rfl⟩
      obtain ⟨s, hs⟩ : ∃ s, s = 1 + m := ⟨_, rfl⟩
      obtain ⟨z, hz⟩ : ∃ z, z = n % s := ⟨_, rfl⟩
      have hn200 : n ≤ 200 := by omega
      have hs1 : 1 ≤ s := by omega
      have hs20 : s ≤ 20 := by omega
      have e1 : (l2 : Int) % 201 = (n : Int) := by omega
      have e2 : (l1 : Int) % 20 = (m : Int) := by omega
      have e3 : Int.tmod (l2 : Int) 201 = (n : Int) := by rw [Int.tmod_eq_emod_of_nonneg (by omega)]; exact e1
      have e4 : Int.tmod (l1 : Int) 20 = (m : Int) := by rw [Int.tmod_eq_emod_of_nonneg (by omega)]; exact e2
      have e5 : (1 : Int) + (m : Int) = (s : Int) := by omega
      have e8 : IntKind.i64.wrap ((1 : Int) + (m : Int)) = (s : Int) := by rw [IntKind.wrap_i64]; omega
      have hzi : (n : Int) % (s : Int) = (z : Int) := by rw [hz]; simp
      have e6 : Int.tmod (n : Int) (s : Int) = (z : Int) := by rw [Int.tmod_eq_emod_of_nonneg (by omega)]; exact hzi
      have hs0 : ((s : Int) == 0) = false := by rw [beq_eq_false_iff_ne]; omega
      have hs0' : (s : Int) ≠ 0 := by omega
      have hs0n : s ≠ 0 := by omega
      have hs0p : ¬ s = 0 := hs0n
      have hzz : ((z : Int) == (z : Int)) = true := by simp
      obtain ⟨os, hos⟩ : ∃ os : List Ord3, os = List.replicate s ⟨0, 0, 0⟩ := ⟨_, rfl⟩
      have hol : os.length = s := by rw [hos]; simp
      have HOL := Lib.hid hol
      have HOS := Lib.hid hos
      have hrun : Hid (runCore ⟨[0, 0, 0], 0, false⟩ os 3 n = ⟨[0, 0, 0], (z : Int), false⟩) := by
        show _ = _
        rw [runCore_good (by
          refine coreB_iff.2 ⟨progB_iff.2 ⟨⟨by omega, by omega⟩, ⟨by decide, by decide⟩, fun o ho => ?_⟩, by rfl, ⟨Int.le_refl _, by show (0 : Int) ≤ _; omega⟩, fun x hx => ?_⟩
          · rw [hos] at ho
            rw [List.eq_of_mem_replicate ho]
            rfl
          · simp only [List.mem_cons, List.not_mem_nil, or_false] at hx
            rcases hx with rfl | rfl | rfl <;> rfl) (inB_iff.2 ⟨by omega, by omega⟩), hos, corRun_idle hs1 n, hzi]
      clear hn hm hs hz hol hos hzi
      have NI : Hid (∀ W, Calls Try.prog 39 #[.int .i64 3] W fun e w' => ∃ A c, e = .returned (.agg #[.slice A 3 c, .int .i64 0, .bool false]) ∧ Own eInt 3 w' W.heap.size (.slice A 3 c) [0, 0, 0] ∧ 3 ≤ c ∧ Below W.heap.size W w') := fun W => callNewCore 3 W (by omega) (by omega)
      have NS : Hid (∀ W, Calls Try.prog 40 #[.int .i64 3] W fun e w' => ∃ A c, e = .returned (.agg #[.slice A 3 c, .int .i64 0, .bool false]) ∧ Own eInt 3 w' W.heap.size (.slice A 3 c) [0, 0, 0] ∧ 3 ≤ c ∧ Below W.heap.size W w') := fun W => callSNewCore 3 W (by omega) (by omega)
      have SC : Hid (∀ (A A' : Option Addr) (c c' : Nat) (W : World), Rd eInt W W.heap.size A [0, 0, 0] → Rd eInt W W.heap.size A' [0, 0, 0] → Calls Try.prog 20 #[.agg #[.slice A 3 c, .int .i64 (z : Int), .bool false], .agg #[.slice A' 3 c', .int .i64 (z : Int), .bool false]] W fun e w' => e = .returned (.bool true) ∧ Below W.heap.size W w') := fun A A' c c' W h1 h2 => sameCoreT A A' c c' ⟨[0, 0, 0], (z : Int), false⟩ (by simp) W h1 h2
      have SI : Hid (∀ (A : Option Addr) (c : Nat) (W : World), Rd eInt W W.heap.size A [0, 0, 0] → Calls Try.prog 35 #[.slice A 3 c, .slice (some ⟨W.heap.size, 0, none⟩) 3 3] (W.alloc (.cells #[.int .i64 0, .int .i64 0, .int .i64 0] 3)) fun e w' => e = .returned (.bool true) ∧ Below W.heap.size W w') := fun A c W h1 => by
        have := callSameInts A (some ⟨W.heap.size, 0, none⟩) c 3 [0, 0, 0] [0, 0, 0] (W.alloc (.cells #[.int .i64 0, .int .i64 0, .int .i64 0] 3)) (W.alloc (.cells #[.int .i64 0, .int .i64 0, .int .i64 0] 3)).heap.size (Nat.le_refl _) (by simp) (by simp) ((h1.below (below1 W _)).mono (by simp)) (Rd.new W _ _ rfl)
        rw [show decide (([0, 0, 0] : List Int) = [0, 0, 0]) = true from decide_eq_true rfl] at this
        exact this.mono fun e w' ⟨h, hb⟩ => ⟨h, bel_trans (below1 W _) hb⟩
      go_enter Try.func10, Try.ntmps10
      go_wp2_with (at_make; refine wpList_mkE (E := eOrd) _ Try.underlying34 (z := .agg #[.int .i64 0, .int .i64 0, .int .i64 0]) (m := 24) (by kernel_rfl) (by decide) (⟨0, 0, 0⟩ : Ord3) rfl rfl _ _ rfl w.heap.size _ _ s rfl rfl (by omega) (by omega) (by omega) (Nat.le_refl _) ?_; intro w1 hown1 hb1; rw [← HOS.out] at hown1; have HB1 := Lib.hid hb1; have HQ1 := Lib.hid hown1.rd; clear hown1 hb1)
      refine (NI.out _).mono ?_
      rintro e w2 ⟨A2', c2', rfl, hown2, hc2, hb2⟩
      have HB2 := Lib.hid (bel_trans HB1.out hb2)
      have HQ2 := Lib.hid (HQ1.out.next hb2)
      have HO2 := Lib.hid hown2.rd
      clear hb2 hown2 HQ1 HB1
      have RI : Hid (∀ (A : Option Addr) (c : Nat) (W : World), 3 ≤ c → Rd eInt W W.heap.size A [0, 0, 0] → Below w2.heap.size w2 W → Calls Try.prog 19 #[.agg #[.slice A 3 c, .int .i64 0, .bool false], .slice (some ⟨w.heap.size, 0, none⟩) s s, .int .i64 3, .int .i64 (n : Int)] W fun e w' => ∃ A c, e = .returned (.agg #[.slice A 3 c, .int .i64 (z : Int), .bool false]) ∧ Own eInt 3 w' W.heap.size (.slice A 3 c) [0, 0, 0] ∧ 3 ≤ c ∧ Below W.heap.size W w') := fun A c W hc hA hW => by
        have := callRunCore A c ⟨[0, 0, 0], 0, false⟩ (some ⟨w.heap.size, 0, none⟩) s os 3 n W W.heap.size (Nat.le_refl _) hc (by simp) (by rw [HOL.out]; omega) hA (HQ2.out.next hW)
        rw [hrun.out, HOL.out] at this
        exact this
      have RS : Hid (∀ (A : Option Addr) (c : Nat) (W : World), Rd eInt W W.heap.size A [0, 0, 0] → Below w2.heap.size w2 W → Calls Try.prog 21 #[.agg #[.slice A 3 c, .int .i64 0, .bool false], .slice (some ⟨w.heap.size, 0, none⟩) s s, .int .i64 3, .int .i64 (n : Int)] W fun e w' => ∃ A c, e = .returned (.agg #[.slice A 3 c, .int .i64 (z : Int), .bool false]) ∧ Own eInt 3 w' W.heap.size (.slice A 3 c) [0, 0, 0] ∧ 3 ≤ c ∧ Below W.heap.size W w') := fun A c W hA hW => by
        have := callSRunCore A c ⟨[0, 0, 0], 0, false⟩ (some ⟨w.heap.size, 0, none⟩) s os 3 n W W.heap.size (Nat.le_refl _) (by simp) (by rw [HOL.out]; omega) hA (HQ2.out.next hW)
        rw [hrun.out, HOL.out] at this
        exact this
      have K7 : Hid ((w2.alloc (.cells #[.slice A2' 3 c2', .int .i64 0, .bool false] 33)).heap[w2.heap.size]? = some (.cells #[.slice A2' 3 c2', .int .i64 0, .bool false] 33 (0, 0))) := heap_alloc_new w2 _
      obtain ⟨y0, y1, y2, _, _, _, _⟩ := cell3 K7.out
      go_wp2_with fail
      refine (RI.out A2' c2' (w2.alloc (.cells #[.slice A2' 3 c2', .int .i64 0, .bool false] 33)) hc2 (HO2.out.alloc _) (below1 _ _)).mono ?_
      rintro e w4 ⟨A4, c4, rfl, hown4, hc4, hb4⟩
      have HB4 : Hid (Below w2.heap.size w2 w4) := bel_trans (below1 _ _) hb4
      have HO4 := Lib.hid hown4.rd
      have K9 : Hid ((w4.alloc (.cells #[.slice A4 3 c4, .int .i64 (z : Int), .bool false] 33)).heap[w4.heap.size]? = some (.cells #[.slice A4 3 c4, .int .i64 (z : Int), .bool false] 33 (0, 0))) := heap_alloc_new w4 _
      clear hb4 hown4 RI NI K7 y0 y1 y2 HO2
      obtain ⟨x0, x1, x2, _, _, _, _⟩ := cell3 K9.out
      go_wp2_with fail
      go_region_held3 (fun w' => w'.cell? ⟨w4.heap.size, 0, none⟩ = some (.slice A4 3 c4) ∧ w'.cell? ⟨w4.heap.size, 1, none⟩ = some (.int .i64 (z : Int)) ∧ w'.cell? ⟨w4.heap.size, 2, none⟩ = some (.bool false)) (first | exact ⟨x0, x1, x2⟩ | (refine ⟨?_, ?_, ?_⟩ <;> assumption) | assumption | go_keep)
        (first
          | (go_at_call 40; (with_reducible refine (NS.out _).mono ?_); rintro e w5 ⟨A5, c5, rfl, hown5, hc5, hb5⟩; have HB5 : Hid (Below w4.heap.size w4 w5) := bel_trans (below1 w4 _).drew hb5; have K95 := Lib.hid (blkc (w := (w4.alloc (.cells #[.slice A4 3 c4, .int .i64 (z : Int), .bool false] 33)).drew) K9.out hb5); obtain ⟨xf0, xf1, xf2, _, _, _, _⟩ := cell3 K95.out)
          | (go_at_call 21; (with_reducible refine (RS.out _ _ w5 hown5.rd (bel_trans HB4.out HB5.out)).mono ?_); rintro e w6 ⟨A6, c6, rfl, hown6, hc6, hb6⟩; have HB6 : Hid (Below w4.heap.size w4 w6) := bel_trans HB5.out hb6; have K96 := Lib.hid (blkc K95.out hb6); obtain ⟨xa0, xa1, xa2, _, _, _, _⟩ := cell3 K96.out)
          | (go_at_call 20; (with_reducible refine (SC.out _ _ _ _ w6 (HO4.out.next HB6.out) hown6.rd).mono ?_); rintro e w7 ⟨rfl, hb7⟩; have K97 := Lib.hid (blkc K96.out hb7); obtain ⟨xb0, xb1, xb2, _, _, _, _⟩ := cell3 K97.out; have HB7 : Hid (Below w4.heap.size w4 w7) := bel_trans HB6.out hb7; obtain ⟨xc0, xc1, xc2, _, _, _, _⟩ := cell3 (blkc K97.out (below1 w7 (.cells #[.int .i64 0, .int .i64 0, .int .i64 0] 3))))
          | (go_at_call 35; (with_reducible refine (SI.out _ _ w7 (HO4.out.next HB7.out)).mono ?_); rintro e w8 ⟨rfl, hb8⟩; have K98 := Lib.hid (blkc K97.out hb8); obtain ⟨xd0, xd1, xd2, _, _, _, _⟩ := cell3 K98.out; have HB8 : Hid (Below w4.heap.size w4 w8) := bel_trans HB7.out hb8)
          | (go_at_call 17; (with_reducible refine (callAlive w8).mono ?_); rintro e w9 ⟨rfl, hb9⟩; have K99 := Lib.hid (blkc K98.out hb9); obtain ⟨xe0, xe1, xe2, _, _, _, _⟩ := cell3 K99.out; have HB9 : Hid (Below w4.heap.size w4 w9) := bel_trans HB8.out hb9))
      go_wp2
      go_ret
      exact ⟨rfl, bel_trans (bel_trans HB2.out HB4.out) HB9.out⟩
    · go_enter Try.func10, Try.ntmps10
      have hl2' : 1048576 < l2 := by omega
      clear hl2
      go_wp2
      go_ret
      exact ⟨rfl, Below.refl _ _⟩
  · have hl' : 1048576 < l1 := by omega
    clear hl
    go_enter Try.func10, Try.ntmps10
    go_wp2
    go_ret
    exact ⟨rfl, Below.refl _ _⟩
end Go.Proofs.Ytiodpnhokjkjaaa
