/- The functions of slots and frames of the program, for every input. -/
import Derived.Test.YtiodpnhokjkjaaaWin
import Derived.Test.YtiodpnhokjkjaaaRep
import Derived.Test.YtiodpnhokjkjaaaFra
namespace Go.Proofs.Ytiodpnhokjkjaaa
open Go.RowKit Go.Sort

/-- The closure of SlotsValid. -/
theorem callSltBad (x : Slt) (parts : Int) (hp1 : -10 ≤ parts) (hp2 : parts ≤ 10) (b1 : Nat) (w : World) (h1 : w.cell? ⟨b1, 0, none⟩ = some (.int .i64 parts)) (hb1 : b1 < w.heap.size) :
    Calls Try.prog 97 (#[x.val] ++ #[.pointer (some ⟨b1, 0, none⟩)]) w fun e w' => e = .returned (.bool (!sltOk parts x)) ∧ Below w.heap.size w w' := by
  show Calls Try.prog 97 #[x.val, .pointer (some ⟨b1, 0, none⟩)] w _
  have E : Hid (sltOk parts x = (inB x.ticks 1 20 && inB x.who (-1) (parts - 1))) := rfl
  cases hh : inB x.ticks 1 20
  all_goals
    rw [hh] at E
    go_enter Try.func97, Try.ntmps97
    go_wp2_with (go_at_call 49; refine (callIn _ _ _ _).mono ?_; rintro e w' ⟨rfl, rfl⟩)
    go_ret
    exact ⟨by rw [E.out]; simp, below1 _ _⟩

theorem egSltBad : ∀ (args : Array Value) (w : World), (callFunc 97 args).run Try.prog w = .ok (.enter 97 args) w := enters_fn Try.func97 (by kernel_rfl) rfl

set_option maxHeartbeats 400000 in
theorem callSlotsValid (A : Option Addr) (c : Nat) (xs : List Slt) (parts : Int) (w : World) (B : Nat) (hB : B ≤ w.heap.size) (hm : xs.length ≤ 1048576) (hp1 : -10 ≤ parts) (hp2 : parts ≤ 10) (hr : Rd eSlt w B A xs) :
    Calls Try.prog 71 #[.slice A xs.length c, .int .i64 parts] w fun e w' => e = .returned (.bool (sltsOk xs parts)) ∧ Below w.heap.size w w' := by
  have hmf := run_makeFunc Try.prog
  have E : Hid (sltsOk xs parts = (inB parts 0 5 && (inB xs.length 1 12 && !xs.any fun x => !sltOk parts x))) := by rw [not_any_not]; rfl
  have HC := Lib.hid (callContainsSlt A c xs 97 #[.pointer (some ⟨w.heap.size, 0, none⟩)] (fun x => !sltOk parts x) (w.alloc (.cells #[.int .i64 parts] 3)) B (by simp; omega) (by omega) (hr.below ((below1 _ _).mono hB)) egSltBad
    (fun x _ w' hb => callSltBad x parts hp1 hp2 w.heap.size w' ((hb.cell (by show w.heap.size < (w.alloc _).heap.size; simp)).trans (by rw [World.cell?_alloc_new]; rfl)) (by have := hb.size; simp at this; omega)))
  clear hr
  generalize (xs.any fun x => !sltOk parts x) = q at *
  cases q1 : inB parts 0 5
  · rw [q1] at E
    go_enter Try.func71, Try.ntmps71
    go_wp2_with (go_at_call 49; refine (callIn _ _ _ _).mono ?_; rintro e w' ⟨rfl, rfl⟩)
    go_ret
    exact ⟨by rw [E.out]; simp, below1 _ _⟩
  · cases q2 : inB (xs.length : Int) 1 12
    · rw [q1, q2] at E
      go_enter Try.func71, Try.ntmps71
      go_wp2_with (go_at_call 49; refine (callIn _ _ _ _).mono ?_; rintro e w' ⟨rfl, rfl⟩)
      go_ret
      exact ⟨by rw [E.out]; simp, below1 _ _⟩
    · rw [q1, q2] at E
      go_enter Try.func71, Try.ntmps71
      go_wp2_with (first | (go_at_call 49; refine (callIn _ _ _ _).mono ?_; rintro e w' ⟨rfl, rfl⟩) | (go_at_call 96; refine HC.out.mono ?_; rintro e w1 ⟨rfl, hb1⟩))
      go_ret
      exact ⟨by rw [E.out]; simp, bel_trans (below1 _ _) hb1⟩





end Go.Proofs.Ytiodpnhokjkjaaa
