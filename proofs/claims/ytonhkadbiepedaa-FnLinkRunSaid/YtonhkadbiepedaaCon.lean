/- slices.Grow at nil and slices.Concat of two slices of numbers. -/
import Derived.Test.YtonhkadbiepedaaLib
import Derived.Test.YtonhkadbiepedaaBox
import Derived.Lib.AppendZerosOnto
import Derived.Lib.Walk
import Derived.Lib.SliceRun
namespace Go.Proofs.Ytonhkadbiepedaa
open Go.RowKit Go.Sort

set_option maxHeartbeats 2000000 in
set_option maxRecDepth 100000 in
theorem callGrowNil (n : Nat) (hn1 : 1 ≤ n) (hn2 : n ≤ 1000000) (w : World) :
    Calls Try.prog 65 #[.slice none 0 0, .int .i64 n] w fun e w' => ∃ G, e = .returned (.slice (some ⟨w.heap.size, 0, none⟩) 0 G) ∧ Own eInt 3 w' w.heap.size (.slice (some ⟨w.heap.size, 0, none⟩) 0 G) [] ∧ Below w.heap.size w w' := by
  obtain ⟨i0, z, hi0, hz0, hs0, hby, hzc⟩ := (eiInt).info
  have hs0' : i0.size = 1 := hs0
  have h1 : ¬ ((n : Int) < 0) := by omega
  have h4 : (n : Int) > 0 := by omega
  have hold : (Builtin.firstCells i0.size 0 (.slice none 0 0)).run Try.prog w.drew = .ok ([] : List Value).toArray w.drew := run_firstCells_none w.drew i0.size 0 0 0
  have hbig : n * i0.bytes ≤ 140737488355328 := Nat.le_trans (Nat.mul_le_mul hn2 hby) (by decide)
  have hrz : ∀ ty, (Builtin.append_ #[23, 3] ty #[.slice none 0 0, .int .i64 (n : Int)]).run Try.prog w =
      .ok (.slice (some ⟨w.heap.size, 0, none⟩) n (grownCap w n 0 3)) (w.drew.alloc (.cells (([] : List Value).toArray ++ Builtin.zeroCells z.cells n ++ Builtin.zeroCells z.cells (grownCap w n 0 3 - n)) 3)) := fun ty => by
    have h := Lib.run_append_grow_zeros w 23 3 ty 3 i0 z .i64 .i64 Try.underlying23 Try.underlying3 hi0 hz0 none 0 0 [] hold n (by omega) (by omega) (by omega) (by omega)
      (by omega) (by rw [Nat.zero_add]; exact growslice_fits (by omega) hbig)
    rw [Nat.zero_add] at h
    exact h
  have hGn : n ≤ grownCap w n 0 3 := grownCap_ge w _ _ _
  have hGm : grownCap w n 0 3 ≤ maxLen := grownCap_le_maxLen w n 0 3 (by unfold maxLen; omega)
  obtain ⟨G, hG⟩ : ∃ G, G = grownCap w n 0 3 := ⟨_, rfl⟩
  rw [← hG] at hrz hGn hGm
  obtain ⟨cs, hcs⟩ : ∃ cs, cs = ([] : List Value).toArray ++ Builtin.zeroCells z.cells n ++ Builtin.zeroCells z.cells (G - n) := ⟨_, rfl⟩
  have hsz : G ≤ cs.size := by
    rw [hcs]
    simp only [Array.size_append, List.size_toArray, size_zeroCells, hzc]
    simp
    omega
  rw [← hcs] at hrz
  have hG63 : G ≤ 9223372036854775807 := by unfold maxLen at hGm; omega
  have HGM := Lib.hid hGm
  have HSZ := Lib.hid hsz
  clear hold hG hcs hbig hi0 hz0 hzc hGm hsz hby hs0 hs0'
  go_enter Try.func65, Try.ntmps65
  go_wp2_with (at_builtin; refine Lib.wpList_append_run _ rfl _ _ _ _ rfl _ _ rfl rfl _ _ (hrz _) ?_)
  all_goals
    go_ret
    refine ⟨G, rfl, .inr ⟨w.heap.size, G, cs, rfl, Nat.le_refl _, heap_alloc_new w.drew _, Nat.zero_le _, HGM.out, by simpa using HSZ.out, by simp⟩, ?_⟩
    exact ((Below.refl _ _).drew).alloc (Nat.le_refl _) _

set_option maxHeartbeats 2000000 in
set_option maxRecDepth 100000 in
theorem callConcat2 (Ax Ay : Option Addr) (cx cy bb : Nat) (xs ys : List Int) (w : World) (B : Nat) (hB : B ≤ w.heap.size) (h1 : 1 ≤ xs.length + ys.length) (h2 : xs.length + ys.length ≤ 1000) (hrx : Rd eInt w B Ax xs) (hry : Rd eInt w B Ay ys)
    (k0 : w.cell? ⟨bb, 0, none⟩ = some (.slice Ax xs.length cx)) (k1 : w.cell? ⟨bb, 1, none⟩ = some (.slice Ay ys.length cy)) :
    Calls Try.prog 58 #[.slice (some ⟨bb, 0, none⟩) 2 2] w fun e w' => ∃ v, e = .returned v ∧ Own eInt 3 w' w.heap.size v (xs ++ ys) ∧ Below w.heap.size w w' := by
  have HX := Lib.hid hrx
  have HY := Lib.hid hry
  have hbw : bb < w.heap.size := block_lt_of_cell k0
  clear hrx hry
  go_enter Try.func58, Try.ntmps58
  go_wp2_with fail
  go_loopw [3, 11] (fun s i wr => ∃ k : Nat, k ≤ 2 ∧ i = .int .i64 k ∧ s = .int .i64 (if k = 0 then 0 else if k = 1 then (xs.length : Int) else (xs.length : Int) + (ys.length : Int)) ∧ wr = w) (fun _ i _ => 2 - (intOf i).toNat)
  case atStart => exact ⟨0, by omega, rfl, rfl, rfl⟩
  case round =>
    obtain ⟨k, hk, rfl, rfl, rfl⟩ := hrel
    have hk3 : k = 0 ∨ k = 1 ∨ k = 2 := by omega
    rcases hk3 with rfl | rfl | rfl
    · have d1 : decide ((xs.length : Int) < 0) = false := decide_eq_false (by omega)
      simp only [if_true]
      go_wp2_with fail
      go_roundw
      case rel => exact ⟨1, by omega, rfl, rfl, (by first | trivial | rfl)⟩
      case measure => simp [intOf]
    · have d1 : decide ((xs.length : Int) + (ys.length : Int) < 0) = false := decide_eq_false (by omega)
      simp only [show ¬ (1 : Nat) = 0 by decide, if_false, if_true]
      go_wp2_with fail
      go_roundw
      case rel => exact ⟨2, by omega, rfl, rfl, (by first | trivial | rfl)⟩
      case measure => simp [intOf]
    · obtain ⟨n, hn⟩ : ∃ n : Nat, (n : Int) = (xs.length : Int) + (ys.length : Int) ∧ 1 ≤ n ∧ n ≤ 1000 := ⟨xs.length + ys.length, by omega, h1, h2⟩
      obtain ⟨hn0, hn1, hn2⟩ := hn
      simp only [show ¬ (2 : Nat) = 0 by decide, show ¬ (2 : Nat) = 1 by decide, if_false]
      rw [← hn0]
      clear hn0
      go_wp2_with fail
      refine (callGrowNil n hn1 (by omega) _).mono ?_
      rintro e w1 ⟨G, rfl, hown1, hb1⟩
      have HO1 := Lib.hid hown1
      have HB1 := Lib.hid hb1
      clear hown1 hb1
      go_wp2_with fail
      go_loopw [6, 27] (fun v i w2 => ∃ j : Nat, j ≤ 2 ∧ i = .int .i64 j ∧ Hid (Own eInt 3 w2 wr.heap.size v (if j = 0 then [] else if j = 1 then xs else xs ++ ys) ∧ Below wr.heap.size wr w2)) (fun _ i _ => 2 - (intOf i).toNat)
      case atStart => exact ⟨0, by omega, rfl, HO1.out, HB1.out⟩
      case round =>
        obtain ⟨j, hj, rfl, HH⟩ := hrel
        rename World => w2
        have q0 := HH.out.2.cell (p := ⟨bb, 0, none⟩) hbw
        have q1 := HH.out.2.cell (p := ⟨bb, 1, none⟩) hbw
        rw [k0] at q0
        rw [k1] at q1
        have hs2 := HH.out.2.size
        have hj3 : j = 0 ∨ j = 1 ∨ j = 2 := by omega
        rcases hj3 with rfl | rfl | rfl
        · have HA : Hid (Own eInt 3 w2 wr.heap.size _ []) := HH.out.1
          have hrr := HX.out.below (HH.out.2.mono hB)
          go_wp2_with (at_builtin; refine wpList_app _ eiInt rfl (.tmp 31) (.tmp 32) rfl wr.heap.size HA.out hrr rfl rfl rfl (by simp; omega) (by omega) ?_; intro v' w3 row hown3 hg3 hrow3)
          go_roundw
          case rel => exact ⟨1, by omega, rfl, by simpa using hown3, HH.out.2.trans (below_of_row hg3 (fun k hk => (hrow3 k hk).1) hs2)⟩
          case measure => simp [intOf]
        · have HA : Hid (Own eInt 3 w2 wr.heap.size _ xs) := HH.out.1
          have hrr := HY.out.below (HH.out.2.mono hB)
          go_wp2_with (at_builtin; refine wpList_app _ eiInt rfl (.tmp 31) (.tmp 32) rfl wr.heap.size HA.out hrr rfl rfl rfl (by omega) (by omega) ?_; intro v' w3 row hown3 hg3 hrow3)
          go_roundw
          case rel => exact ⟨2, by omega, rfl, hown3, HH.out.2.trans (below_of_row hg3 (fun k hk => (hrow3 k hk).1) hs2)⟩
          case measure => simp [intOf]
        · go_wp2_with fail
          go_ret
          exact ⟨_, rfl, HH.out.1, HH.out.2⟩
end Go.Proofs.Ytonhkadbiepedaa
