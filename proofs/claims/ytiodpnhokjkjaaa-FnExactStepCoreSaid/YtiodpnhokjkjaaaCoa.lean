/- Programs and cores of the program: what is valid, for every input. -/
import Derived.Test.YtiodpnhokjkjaaaCor
import Derived.Test.YtiodpnhokjkjaaaIdx
import Derived.Test.YtiodpnhokjkjaaaWin
import Derived.Test.YtiodpnhokjkjaaaBox
import Derived.BigQuiet
import Derived.Deep.DeepCutAuto
import Derived.Deep.QuietTactic
namespace Go.Proofs.Ytiodpnhokjkjaaa
open Go.RowKit Go.Sort

theorem ordB_op1 (cells len a b : Int) : ordB cells len ⟨1, a, b⟩ = (inB a 0 (cells - 1) && inB b 0 255) := by simp [ordB]
theorem ordB_op2 (cells len a b : Int) : ordB cells len ⟨2, a, b⟩ = (inB a 0 (cells - 1) && inB b 0 (cells - 1)) := by simp [ordB]
theorem ordB_op3 (cells len a b : Int) : ordB cells len ⟨3, a, b⟩ = (inB a 0 (cells - 1) && inB b 0 (cells - 1)) := by simp [ordB]
theorem ordB_op4 (cells len a b : Int) : ordB cells len ⟨4, a, b⟩ = (inB a 0 (len - 1) && inB b 0 (cells - 1)) := by simp [ordB]
theorem ordB_op5 (cells len a b : Int) : ordB cells len ⟨5, a, b⟩ = (inB a 0 7 && inB b 0 (cells - 1)) := by simp [ordB]
theorem ordB_op6 (cells len a b : Int) : ordB cells len ⟨6, a, b⟩ = (inB a 0 7 && inB b 0 (cells - 1)) := by simp [ordB]
theorem ordB_op7 (cells len a b : Int) : ordB cells len ⟨7, a, b⟩ = (inB a 0 (cells - 1) && (b == 0)) := by simp [ordB]
theorem ordB_op0 (cells len a b : Int) : ordB cells len ⟨0, a, b⟩ = ((a == 0) && (b == 0)) := by simp [ordB]
theorem ordB_op8 (cells len a b : Int) : ordB cells len ⟨8, a, b⟩ = ((a == 0) && (b == 0)) := by simp [ordB]
theorem ordB_else (cells len a b : Int) {op : Int} (h : op ≠ 1 ∧ op ≠ 2 ∧ op ≠ 3 ∧ op ≠ 4 ∧ op ≠ 5 ∧ op ≠ 6 ∧ op ≠ 7 ∧ op ≠ 0 ∧ op ≠ 8) : ordB cells len ⟨op, a, b⟩ = false := by
  unfold ordB; simp [h]

set_option maxRecDepth 100000 in
set_option maxHeartbeats 6400000 in
theorem callOrdValid (op a b cells len : Int) (w : World) (hc0 : 1 ≤ cells) (hc1 : cells ≤ 8) (hl0 : 1 ≤ len) (hl1 : len ≤ 20) :
    Calls Try.prog 87 #[.agg #[.int .i64 op, .int .i64 a, .int .i64 b], .int .i64 cells, .int .i64 len] w fun e w' => e = .returned (.bool (ordB cells len ⟨op, a, b⟩)) ∧ Below w.heap.size w w' := by
  have hw1 : IntKind.i64.wrap (cells - 1) = cells - 1 := IntWalk.i64_in _ (by omega)
  obtain ⟨u, hu⟩ : ∃ u, u = w.alloc (.cells #[.int .i64 op, .int .i64 a, .int .i64 b] 41) := ⟨_, rfl⟩
  obtain ⟨x0, x1, x2, _, _, _, _⟩ := cell3 (heap_alloc_new w (.cells #[.int .i64 op, .int .i64 a, .int .i64 b] 41))
  have HB := Lib.hid (below1 w (.cells #[.int .i64 op, .int .i64 a, .int .i64 b] 41))
  have hop : op = 1 ∨ op = 2 ∨ op = 3 ∨ op = 7 ∨ op = 4 ∨ op = 5 ∨ op = 6 ∨ op = 0 ∨ op = 8 ∨ (op ≠ 1 ∧ op ≠ 2 ∧ op ≠ 3 ∧ op ≠ 4 ∧ op ≠ 5 ∧ op ≠ 6 ∧ op ≠ 7 ∧ op ≠ 0 ∧ op ≠ 8) := by omega
  rw [← hu] at x0 x1 x2 HB
  have HO := Lib.hid hop
  clear hop
  go_enter Try.func87, Try.ntmps87
  go_upto_region 1 with (fail)
  rw [← hu]
  clear hu
  have j0 := cell_regrown x0
  have j1 := cell_regrown x1
  have j2 := cell_regrown x2
  go_quiet ((go_at_call 49; exact quiet_left (callIn _ _ _ _)))
  clear j0 j1 j2 hw1
  rcases HO.out with h | h | h | h | h | h | h | h | h | h
  · subst h
    have E := Lib.hid (ordB_op1 cells len a b)
    clear HO
    cases q1 : inB a 0 (cells - 1)
    all_goals
      go_wp2_with (go_at_call 49; refine (callIn _ _ _ _).mono ?_; rintro e w' ⟨rfl, rfl⟩)
      go_ret
      exact ⟨by rw [E.out, q1] <;> rfl, below_drewN HB.out _⟩
  · subst h
    have E := Lib.hid (ordB_op2 cells len a b)
    clear HO
    cases q1 : inB a 0 (cells - 1)
    all_goals
      go_wp2_with (go_at_call 49; refine (callIn _ _ _ _).mono ?_; rintro e w' ⟨rfl, rfl⟩)
      go_ret
      exact ⟨by rw [E.out, q1] <;> rfl, below_drewN HB.out _⟩
  · subst h
    have E := Lib.hid (ordB_op3 cells len a b)
    clear HO
    cases q1 : inB a 0 (cells - 1)
    all_goals
      go_wp2_with (go_at_call 49; refine (callIn _ _ _ _).mono ?_; rintro e w' ⟨rfl, rfl⟩)
      go_ret
      exact ⟨by rw [E.out, q1] <;> rfl, below_drewN HB.out _⟩
  · subst h
    have E := Lib.hid (ordB_op7 cells len a b)
    clear HO
    cases q1 : inB a 0 (cells - 1)
    all_goals
      go_wp2_with (go_at_call 49; refine (callIn _ _ _ _).mono ?_; rintro e w' ⟨rfl, rfl⟩)
      go_ret
      exact ⟨by rw [E.out, q1] <;> rfl, below_drewN HB.out _⟩
  · subst h
    have E := Lib.hid (ordB_op4 cells len a b)
    clear HO
    have hw2 : IntKind.i64.wrap (len - 1) = len - 1 := IntWalk.i64_in _ (by omega)
    cases q1 : inB a 0 (len - 1)
    all_goals
      go_wp2_with (go_at_call 49; refine (callIn _ _ _ _).mono ?_; rintro e w' ⟨rfl, rfl⟩)
      go_ret
      exact ⟨by rw [E.out, q1] <;> rfl, below_drewN HB.out _⟩
  · subst h
    have E := Lib.hid (ordB_op5 cells len a b)
    clear HO
    cases q1 : inB a 0 7
    all_goals
      go_wp2_with (go_at_call 49; refine (callIn _ _ _ _).mono ?_; rintro e w' ⟨rfl, rfl⟩)
      go_ret
      exact ⟨by rw [E.out, q1] <;> rfl, below_drewN HB.out _⟩
  · subst h
    have E := Lib.hid (ordB_op6 cells len a b)
    clear HO
    cases q1 : inB a 0 7
    all_goals
      go_wp2_with (go_at_call 49; refine (callIn _ _ _ _).mono ?_; rintro e w' ⟨rfl, rfl⟩)
      go_ret
      exact ⟨by rw [E.out, q1] <;> rfl, below_drewN HB.out _⟩
  · subst h
    have E := Lib.hid (ordB_op0 cells len a b)
    clear HO
    cases q1 : (a == 0)
    all_goals
      go_wp2_with (go_at_call 49; refine (callIn _ _ _ _).mono ?_; rintro e w' ⟨rfl, rfl⟩)
      go_ret
      exact ⟨by rw [E.out, q1] <;> rfl, below_drewN HB.out _⟩
  · subst h
    have E := Lib.hid (ordB_op8 cells len a b)
    clear HO
    cases q1 : (a == 0)
    all_goals
      go_wp2_with (go_at_call 49; refine (callIn _ _ _ _).mono ?_; rintro e w' ⟨rfl, rfl⟩)
      go_ret
      exact ⟨by rw [E.out, q1] <;> rfl, below_drewN HB.out _⟩
  · obtain ⟨h1, h2, h3, h4, h5, h6, h7, h8, h9⟩ := h
    have E := Lib.hid (ordB_else cells len a b (op := op) ⟨h1, h2, h3, h4, h5, h6, h7, h8, h9⟩)
    have n1 : (op == 1) = false := beq_eq_false_iff_ne.2 h1
    have n2 : (op == 2) = false := beq_eq_false_iff_ne.2 h2
    have n3 : (op == 3) = false := beq_eq_false_iff_ne.2 h3
    have n4 : (op == 4) = false := beq_eq_false_iff_ne.2 h4
    have n5 : (op == 5) = false := beq_eq_false_iff_ne.2 h5
    have n6 : (op == 6) = false := beq_eq_false_iff_ne.2 h6
    have n7 : (op == 7) = false := beq_eq_false_iff_ne.2 h7
    have n8 : (op == 0) = false := beq_eq_false_iff_ne.2 h8
    have n9 : (op == 8) = false := beq_eq_false_iff_ne.2 h9
    clear HO h1 h2 h3 h4 h5 h6 h7 h8 h9
    go_wp2_with fail
    go_ret
    exact ⟨by rw [E.out] <;> rfl, below_drewN HB.out _⟩

theorem callOrdBad (o : Ord3) (A : Option Addr) (c n : Nat) (cells : Int) (b3 b2 : Nat) (w : World) (hc0 : 1 ≤ cells) (hc1 : cells ≤ 8) (hl0 : 1 ≤ n) (hl1 : n ≤ 20) (h3 : w.cell? ⟨b3, 0, none⟩ = some (.int .i64 cells)) (h2 : w.cell? ⟨b2, 0, none⟩ = some (.slice A n c)) (hb3 : b3 < w.heap.size) (hb2 : b2 < w.heap.size) :
    Calls Try.prog 86 #[.agg #[.int .i64 o.op, .int .i64 o.a, .int .i64 o.b], .pointer (some ⟨b3, 0, none⟩), .pointer (some ⟨b2, 0, none⟩)] w fun e w' => e = .returned (.bool (!ordB cells n o)) ∧ Below w.heap.size w w' := by
  obtain ⟨op, a, b⟩ := o
  go_enter Try.func86, Try.ntmps86
  go_wp2_with fail
  refine (callOrdValid op a b cells n _ hc0 hc1 (by omega) (by omega)).mono ?_
  rintro e w' ⟨rfl, hb⟩
  have HB := Lib.hid (bel_trans (below1 _ _) hb)
  clear hb
  go_wp2
  go_ret
  exact ⟨rfl, HB.out⟩
theorem egOrdBad : ∀ (args : Array Value) (w : World), (callFunc 86 args).run Try.prog w = .ok (.enter 86 args) w := enters_fn Try.func86 (by kernel_rfl) rfl
set_option maxHeartbeats 1600000 in
theorem callProgValid (A : Option Addr) (c : Nat) (os : List Ord3) (cells : Int) (w : World) (B : Nat) (hB : B ≤ w.heap.size) (hm : os.length ≤ 1048576) (hr : Rd eOrd w B A os) :
    Calls Try.prog 60 #[.slice A os.length c, .int .i64 cells] w fun e w' => e = .returned (.bool (progB os cells)) ∧ Below w.heap.size w w' := by
  have hmf := run_makeFunc Try.prog
  have E : Hid (progB os cells = (inB os.length 1 20 && (inB cells 1 8 && !os.any fun x => !ordB cells os.length x))) := by
    show _ = _
    unfold progB; rw [not_any_not, Bool.and_assoc]
  have K0 := alloc_at0 w (.cells #[.slice A os.length c] 34) (.cells #[.int .i64 cells] 3)
  have K1 := alloc_at1 w (.cells #[.slice A os.length c] 34) (.cells #[.int .i64 cells] 3)
  cases q1 : inB (os.length : Int) 1 20
  · rw [q1] at E
    clear K0 K1
    go_enter Try.func60, Try.ntmps60
    go_wp2_with (go_at_call 49; refine (callIn _ _ _ _).mono ?_; rintro e w' ⟨rfl, rfl⟩)
    go_ret
    exact ⟨by rw [E.out]; simp, below2 _ _ _⟩
  · cases q2 : inB cells 1 8
    · rw [q1, q2] at E
      clear K0 K1
      go_enter Try.func60, Try.ntmps60
      go_wp2_with (go_at_call 49; refine (callIn _ _ _ _).mono ?_; rintro e w' ⟨rfl, rfl⟩)
      go_ret
      exact ⟨by rw [E.out]; simp, below2 _ _ _⟩
    · rw [q1, q2] at E
      have c1 := inB_iff.1 q1
      have c2 := inB_iff.1 q2
      have HC := Lib.hid (callContainsOrd A c os 86 #[.pointer (some ⟨w.heap.size + 1, 0, none⟩), .pointer (some ⟨w.heap.size, 0, none⟩)] (fun x => !ordB cells os.length x) ((w.alloc (.cells #[.slice A os.length c] 34)).alloc (.cells #[.int .i64 cells] 3)) B (by simp; omega) (by omega) (hr.below ((below2 _ _ _).mono hB)) egOrdBad
        (fun x _ w' hb => callOrdBad x A c os.length cells (w.heap.size + 1) w.heap.size w' c2.1 c2.2 (by omega) (by omega) (cell1 (blkc K1 hb)).1 (cell1 (blkc K0 hb)).1 (cell1 (blkc K1 hb)).2.2 (cell1 (blkc K0 hb)).2.2))
      clear hr K0 K1
      generalize (os.any fun x => !ordB cells os.length x) = q at *
      go_enter Try.func60, Try.ntmps60
      go_wp2_with (first | (go_at_call 49; refine (callIn _ _ _ _).mono ?_; rintro e w' ⟨rfl, rfl⟩) | (go_at_call 85; refine HC.out.mono ?_; rintro e w1 ⟨rfl, hb1⟩))
      go_ret
      exact ⟨by rw [E.out]; simp, bel_trans (below2 _ _ _) hb1⟩
end Go.Proofs.Ytiodpnhokjkjaaa
