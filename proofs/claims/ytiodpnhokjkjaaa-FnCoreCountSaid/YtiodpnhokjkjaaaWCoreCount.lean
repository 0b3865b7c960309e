/- The walk of the law FnCoreCount: true for every input, and nothing that was there is written. -/
import Derived.Test.YtiodpnhokjkjaaaCou
import Derived.Test.YtiodpnhokjkjaaaCol
import Derived.Test.YtiodpnhokjkjaaaSco
import Derived.Test.YtiodpnhokjkjaaaWin
import Derived.Deep.RegionHeld3
namespace Go.Proofs.Ytiodpnhokjkjaaa
open Go.RowKit Go.Sort

set_option maxRecDepth 100000 in
set_option maxHeartbeats 3200000 in
theorem walkFnCoreCount (A : Option Addr) (c : Nat) (bs : List Int) (A2 : Option Addr) (c2 : Nat) (bs2 : List Int) (w : World) (hc : bs.length ≤ c) (hr : Rd eU8 w w.heap.size A bs) (hby : ∀ x ∈ bs, 0 ≤ x ∧ x ≤ 255) (hc2 : bs2.length ≤ c2) (hr2 : Rd eU8 w w.heap.size A2 bs2) (hby2 : ∀ x ∈ bs2, 0 ≤ x ∧ x ≤ 255) :
    Calls Try.prog 8 #[.slice A bs.length c, .slice A2 bs2.length c2] w fun e w' => e = .returned (.bool true) ∧ Below w.heap.size w w' := by
  clear hc hr hby hc2 hr2 hby2
  obtain ⟨l1, h1⟩ : ∃ l1, l1 = bs.length := ⟨_, rfl⟩
  obtain ⟨l2, h2⟩ : ∃ l2, l2 = bs2.length := ⟨_, rfl⟩
  rw [← h1, ← h2]
  clear h1 h2 bs bs2
  by_cases hl : l1 ≤ 1048576
  · by_cases hl2 : l2 ≤ 1048576
    · have hd1 : decide ((l1 : Int) > 1048576) = false := decide_eq_false (by omega)
      have hd2 : decide ((l2 : Int) > 1048576) = false := decide_eq_false (by omega)
      obtain ⟨n, hn⟩ : ∃ n, n = l2 % 201 := ⟨_, rfl⟩
      obtain ⟨m, hm⟩ : ∃ m, m = l1 % 256 := ⟨_, rfl⟩
      obtain ⟨s, hs⟩ : ∃ s, s = m + n := ⟨_, rfl⟩
      obtain ⟨q, hq⟩ : ∃ q, q = s % 256 := ⟨_, rfl⟩
      have hn200 : n ≤ 200 := by omega
      have hm255 : m ≤ 255 := by omega
      have e1 : (l2 : Int) % 201 = (n : Int) := by omega
      have e2 : (l1 : Int) % 256 = (m : Int) := by omega
      have e3 : Int.tmod (l2 : Int) 201 = (n : Int) := by rw [Int.tmod_eq_emod_of_nonneg (by omega)]; exact e1
      have e4 : Int.tmod (l1 : Int) 256 = (m : Int) := by rw [Int.tmod_eq_emod_of_nonneg (by omega)]; exact e2
      have e5 : IntKind.i64.wrap ((m : Int) + (n : Int)) = (s : Int) := by rw [IntKind.wrap_i64]; omega
      have e6 : Int.tmod (s : Int) 256 = (q : Int) := by rw [Int.tmod_eq_emod_of_nonneg (by omega)]; omega
      have e7 : (s : Int) % 256 = (q : Int) := by omega
      have hrun : Hid (runCore ⟨[(m : Int), 1], 0, false⟩ [⟨2, 0, 1⟩] 2 n = ⟨[(q : Int), 1], 0, false⟩) := by
        show _ = _
        rw [runCore_good (by
          refine coreB_iff.2 ⟨by decide, by rfl, ⟨Int.le_refl _, by simp⟩, fun x hx => ?_⟩
          simp only [List.mem_cons, List.not_mem_nil, or_false] at hx
          rcases hx with rfl | rfl
          · exact inB_iff.2 ⟨by omega, by omega⟩
          · exact inB_iff.2 ⟨by decide, by decide⟩) (inB_iff.2 ⟨by omega, by omega⟩), corRun_count (by omega) (by omega) n]
        rw [show ((m : Int) + (n : Int)) % 256 = (q : Int) by omega]
      clear hn hm hs hq
      obtain ⟨o1, ho1⟩ : ∃ o1 : Obj, o1 = .cells #[.int .i64 (m : Int), .int .i64 1] 3 := ⟨_, rfl⟩
      obtain ⟨o2, ho2⟩ : ∃ o2 : Obj, o2 = .cells #[.slice (some ⟨w.heap.size, 0, none⟩) 2 2, .int .i64 0, .bool false] 33 := ⟨_, rfl⟩
      obtain ⟨o3, ho3⟩ : ∃ o3 : Obj, o3 = .cells #[.int .i64 2, .int .i64 0, .int .i64 1] 41 := ⟨_, rfl⟩
      obtain ⟨W3, hW3⟩ : ∃ W3, W3 = ((w.alloc o1).alloc o2).alloc o3 := ⟨_, rfl⟩
      have hsz : W3.heap.size = w.heap.size + 1 + 1 + 1 := by rw [hW3]; simp
      have RA : Rd eInt W3 W3.heap.size (some ⟨w.heap.size, 0, none⟩) [(m : Int), 1] := by
        have h0 : Rd eInt (w.alloc o1) (w.alloc o1).heap.size (some ⟨w.heap.size, 0, none⟩) [(m : Int), 1] := by rw [ho1]; exact Rd.new w _ _ rfl
        rw [hW3]
        exact (h0.below (below2 _ o2 o3)).mono (by simp)
      have RB : Rd eOrd W3 W3.heap.size (some ⟨w.heap.size + 1 + 1, 0, none⟩) [⟨2, 0, 1⟩] := by
        have e : ((w.alloc o1).alloc o2).heap.size = w.heap.size + 1 + 1 := by simp
        have h0 : Rd eOrd (((w.alloc o1).alloc o2).alloc o3) (((w.alloc o1).alloc o2).alloc o3).heap.size (some ⟨((w.alloc o1).alloc o2).heap.size, 0, none⟩) [⟨2, 0, 1⟩] := by rw [ho3]; exact Rd.new _ _ _ rfl
        rw [e] at h0
        rw [hW3]; exact h0
      have K7 : Hid (W3.heap[w.heap.size + 1]? = some (.cells #[.slice (some ⟨w.heap.size, 0, none⟩) 2 2, .int .i64 0, .bool false] 33 (0, 0))) := by
        have := alloc_at1 w o1 o2
        rw [hW3]
        rw [ho2] at this ⊢
        exact blkc this (below1 _ o3)
      have HB3 : Hid (Below w.heap.size w W3) := by rw [hW3]; exact (below2 w o1 o2).alloc (by simp; omega) o3
      have RI : Hid (∀ W, Below W3.heap.size W3 W → Calls Try.prog 19 #[.agg #[.slice (some ⟨w.heap.size, 0, none⟩) 2 2, .int .i64 0, .bool false], .slice (some ⟨w.heap.size + 1 + 1, 0, none⟩) 1 1, .int .i64 2, .int .i64 (n : Int)] W fun e w' => ∃ A c, e = .returned (.agg #[.slice A 2 c, .int .i64 0, .bool false]) ∧ Own eInt 3 w' W.heap.size (.slice A 2 c) [(q : Int), 1] ∧ 2 ≤ c ∧ Below W.heap.size W w') := fun W hW => by
        have := callRunCore (some ⟨w.heap.size, 0, none⟩) 2 ⟨[(m : Int), 1], 0, false⟩ (some ⟨w.heap.size + 1 + 1, 0, none⟩) 1 [⟨2, 0, 1⟩] 2 n W W3.heap.size hW.size (Nat.le_refl _) (by simp) (by simp) (RA.below hW) (RB.below hW)
        rw [hrun.out] at this
        exact this
      have RS : Hid (∀ W, Below W3.heap.size W3 W → Calls Try.prog 21 #[.agg #[.slice (some ⟨w.heap.size, 0, none⟩) 2 2, .int .i64 0, .bool false], .slice (some ⟨w.heap.size + 1 + 1, 0, none⟩) 1 1, .int .i64 2, .int .i64 (n : Int)] W fun e w' => ∃ A c, e = .returned (.agg #[.slice A 2 c, .int .i64 0, .bool false]) ∧ Own eInt 3 w' W.heap.size (.slice A 2 c) [(q : Int), 1] ∧ 2 ≤ c ∧ Below W.heap.size W w') := fun W hW => by
        have := callSRunCore (some ⟨w.heap.size, 0, none⟩) 2 ⟨[(m : Int), 1], 0, false⟩ (some ⟨w.heap.size + 1 + 1, 0, none⟩) 1 [⟨2, 0, 1⟩] 2 n W W3.heap.size hW.size (by simp) (by simp) (RA.below hW) (RB.below hW)
        rw [hrun.out] at this
        exact this
      have SC : Hid (∀ (A A' : Option Addr) (c c' : Nat) (W : World), Rd eInt W W.heap.size A [(q : Int), 1] → Rd eInt W W.heap.size A' [(q : Int), 1] → Calls Try.prog 20 #[.agg #[.slice A 2 c, .int .i64 0, .bool false], .agg #[.slice A' 2 c', .int .i64 0, .bool false]] W fun e w' => e = .returned (.bool true) ∧ Below W.heap.size W w') := fun A A' c c' W h1 h2 => sameCoreT A A' c c' ⟨[(q : Int), 1], 0, false⟩ (by simp) W h1 h2
      have SI : Hid (∀ (A : Option Addr) (c : Nat) (W : World), Rd eInt W W.heap.size A [(q : Int), 1] → Calls Try.prog 35 #[.slice A 2 c, .slice (some ⟨W.heap.size, 0, none⟩) 2 2] (W.alloc (.cells #[.int .i64 (q : Int), .int .i64 1] 3)) fun e w' => e = .returned (.bool true) ∧ Below W.heap.size W w') := fun A c W h1 => by
        have := callSameInts A (some ⟨W.heap.size, 0, none⟩) c 2 [(q : Int), 1] [(q : Int), 1] (W.alloc (.cells #[.int .i64 (q : Int), .int .i64 1] 3)) (W.alloc (.cells #[.int .i64 (q : Int), .int .i64 1] 3)).heap.size (Nat.le_refl _) (by simp) (by simp) ((h1.below (below1 W _)).mono (by simp)) (Rd.new W _ _ rfl)
        rw [show decide ([(q : Int), 1] = [(q : Int), 1]) = true from decide_eq_true rfl] at this
        exact this.mono fun e w' ⟨h, hb⟩ => ⟨h, bel_trans (below1 W _) hb⟩
      clear hrun RA RB
      go_enter Try.func8, Try.ntmps8
      go_wp2_with fail
      rw [← ho1, ← ho2, ← ho3, ← hW3]
      clear ho1 ho2 ho3 hW3
      refine (RI.out W3 (Below.refl _ _)).mono ?_
      rintro e w4 ⟨A4, c4, rfl, hown4, hc4, hb4⟩
      have HB4 := Lib.hid hb4
      have HO4 := Lib.hid hown4.rd
      have K74 := Lib.hid (blkc (blkc K7.out hb4) (below1 w4 (.cells #[.slice A4 2 c4, .int .i64 0, .bool false] 33)))
      have K9 : Hid ((w4.alloc (.cells #[.slice A4 2 c4, .int .i64 0, .bool false] 33)).heap[w4.heap.size]? = some (.cells #[.slice A4 2 c4, .int .i64 0, .bool false] 33 (0, 0))) := heap_alloc_new w4 _
      have hs4 : w.heap.size + 1 < w4.heap.size := by have := hb4.size; omega
      clear hb4 hown4 RI
      obtain ⟨x0, x1, x2, _, _, _, _⟩ := cell3 K9.out
      obtain ⟨y0, y1, y2, _, _, _, _⟩ := cell3 K74.out
      go_wp2_with fail
      go_region_held3 (fun w' => w'.cell? ⟨w4.heap.size, 0, none⟩ = some (.slice A4 2 c4) ∧ w'.cell? ⟨w4.heap.size, 1, none⟩ = some (.int .i64 0) ∧ w'.cell? ⟨w4.heap.size, 2, none⟩ = some (.bool false) ∧ w'.cell? ⟨w.heap.size + 1, 0, none⟩ = some (.slice (some ⟨w.heap.size, 0, none⟩) 2 2) ∧ w'.cell? ⟨w.heap.size + 1, 1, none⟩ = some (.int .i64 0) ∧ w'.cell? ⟨w.heap.size + 1, 2, none⟩ = some (.bool false)) (first | exact ⟨x0, x1, x2, y0, y1, y2⟩ | (refine ⟨?_, ?_, ?_, ?_, ?_, ?_⟩ <;> assumption) | assumption | go_keep)
        (first
          | (go_at_call 21; (with_reducible refine (RS.out _ (bel_trans HB4.out (below1 w4 _).drew)).mono ?_); rintro e w6 ⟨A6, c6, rfl, hown6, hc6, hb6⟩; have HB6 : Hid (Below w4.heap.size w4 w6) := bel_trans (below1 w4 _).drew hb6; have K96 := Lib.hid (blkc (w := (w4.alloc (.cells #[.slice A4 2 c4, .int .i64 0, .bool false] 33)).drew) K9.out hb6); have K76 := Lib.hid (blkc (w := (w4.alloc (.cells #[.slice A4 2 c4, .int .i64 0, .bool false] 33)).drew) K74.out hb6); obtain ⟨xa0, xa1, xa2, _, _, _, _⟩ := cell3 K96.out; obtain ⟨ya0, ya1, ya2, _, _, _, _⟩ := cell3 K76.out)
          | (go_at_call 20; (with_reducible refine (SC.out _ _ _ _ w6 (HO4.out.next HB6.out) hown6.rd).mono ?_); rintro e w7 ⟨rfl, hb7⟩; have K97 := Lib.hid (blkc K96.out hb7); have K77 := Lib.hid (blkc K76.out hb7); obtain ⟨xb0, xb1, xb2, _, _, _, _⟩ := cell3 K97.out; obtain ⟨yb0, yb1, yb2, _, _, _, _⟩ := cell3 K77.out; have HB7 : Hid (Below w4.heap.size w4 w7) := bel_trans HB6.out hb7; obtain ⟨xc0, xc1, xc2, _, _, _, _⟩ := cell3 (blkc K97.out (below1 w7 (.cells #[.int .i64 (q : Int), .int .i64 1] 3))); obtain ⟨yc0, yc1, yc2, _, _, _, _⟩ := cell3 (blkc K77.out (below1 w7 (.cells #[.int .i64 (q : Int), .int .i64 1] 3))))
          | (go_at_call 35; (with_reducible refine (SI.out _ _ w7 (HO4.out.next HB7.out)).mono ?_); rintro e w8 ⟨rfl, hb8⟩; have K98 := Lib.hid (blkc K97.out hb8); have K78 := Lib.hid (blkc K77.out hb8); obtain ⟨xd0, xd1, xd2, _, _, _, _⟩ := cell3 K98.out; obtain ⟨yd0, yd1, yd2, _, _, _, _⟩ := cell3 K78.out; have HB8 : Hid (Below w4.heap.size w4 w8) := bel_trans HB7.out hb8)
          | (go_at_call 17; (with_reducible refine (callAlive w8).mono ?_); rintro e w9 ⟨rfl, hb9⟩; have K99 := Lib.hid (blkc K98.out hb9); have K79 := Lib.hid (blkc K78.out hb9); obtain ⟨xe0, xe1, xe2, _, _, _, _⟩ := cell3 K99.out; obtain ⟨ye0, ye1, ye2, _, _, _, _⟩ := cell3 K79.out; have HB9 : Hid (Below w4.heap.size w4 w9) := bel_trans HB8.out hb9))
      go_wp2
      go_ret
      exact ⟨rfl, bel_trans (bel_trans HB3.out HB4.out) HB9.out⟩
    · go_enter Try.func8, Try.ntmps8
      have hl2' : 1048576 < l2 := by omega
      clear hl2
      go_wp2
      go_ret
      exact ⟨rfl, Below.refl _ _⟩
  · have hl' : 1048576 < l1 := by omega
    clear hl
    go_enter Try.func8, Try.ntmps8
    go_wp2
    go_ret
    exact ⟨rfl, Below.refl _ _⟩
end Go.Proofs.Ytiodpnhokjkjaaa
