/- Contracts of the functions on windows (valid, WindowsValid, WindowAt, alive), each for every input. -/
import Derived.Test.YtonhkadbiepedaaDoorRows
import Derived.Test.YtonhkadbiepedaaDoorIdx
namespace Go.Proofs.YtonhkadbiepedaaDoor
open Go.RowKit Go.Sort

/-! ### Leaves -/

theorem callIn (n lo hi : Int) (w : World) :
    Calls Tryd.prog 22 #[.int .i64 n, .int .i64 lo, .int .i64 hi] w fun e w' => e = .returned (.bool (inB n lo hi)) ∧ w = w' := by
  go_enter Tryd.func22, Tryd.ntmps22
  go_wp2
  all_goals go_ret
  all_goals exact ⟨by simp_all [inB] <;> omega, rfl⟩

theorem callL1In (n lo hi : Int) (w : World) :
    Calls Tryd.prog 24 #[.int .i64 n, .int .i64 lo, .int .i64 hi] w fun e w' => e = .returned (.bool (inB n lo hi)) ∧ w = w' := by
  go_enter Tryd.func24, Tryd.ntmps24
  go_wp2
  all_goals go_ret
  all_goals exact ⟨by simp_all [inB] <;> omega, rfl⟩

theorem callWinValid (x : Win) (w : World) :
    Calls Tryd.prog 40 #[x.val] w fun e w' => e = .returned (.bool (winOk x)) ∧ Below w.heap.size w w' := by
  cases h1 : inB x.base 0 4095
  all_goals
    have e : winOk x = (inB x.base 0 4095 && inB x.size 1 (4096 - x.base)) := rfl
    rw [h1] at e
    have E := Lib.hid e
    clear e
    have h := inB_iff (n := x.base) (lo := 0) (hi := 4095)
    simp only [h1, true_iff, false_iff, reduceCtorEq] at h
    go_enter Tryd.func40, Tryd.ntmps40
    go_wp2_with (go_at_call 22; refine (callIn _ _ _ _).mono ?_; rintro e w' ⟨rfl, rfl⟩)
    go_ret
    exact ⟨by rw [E.out]; simp, below1 _ _⟩


theorem callWinHas (x : Win) (place : Int) (hx : winOk x = true) (w : World) :
    Calls Tryd.prog 34 #[x.val, .int .i64 place] w fun e w' => e = .returned (.bool (winHas place x)) ∧ Below w.heap.size w w' := by
  obtain ⟨h1, h2, h3, h4⟩ := winOk_iff.1 hx
  clear hx
  go_enter Tryd.func34, Tryd.ntmps34
  go_wp2_with (go_at_call 22; refine (callIn _ _ _ _).mono ?_; rintro e w' ⟨rfl, rfl⟩)
  go_ret
  exact ⟨rfl, below1 _ _⟩

/-- The closure of WindowsValid. -/
theorem callWinsBad (x : Win) (w : World) :
    Calls Tryd.prog 39 #[x.val] w fun e w' => e = .returned (.bool (!winOk x)) ∧ Below w.heap.size w w' := by
  go_enter Tryd.func39, Tryd.ntmps39
  go_wp2_with (go_at_call 40; refine (callWinValid x _).mono ?_; rintro e w1 ⟨rfl, hb1⟩)
  go_ret
  exact ⟨rfl, bel_trans (below1 _ _) hb1⟩

theorem egWinsBad : ∀ (args : Array Value) (w : World), (callFunc 39 args).run Tryd.prog w = .ok (.enter 39 args) w := enters_fn Tryd.func39 (by kernel_rfl) rfl
theorem egWinsFit : ∀ (args : Array Value) (w : World), (callFunc 33 args).run Tryd.prog w = .ok (.enter 33 args) w := enters_fn Tryd.func33 (by kernel_rfl) rfl

theorem not_any_not {α : Type} (p : α → Bool) (xs : List α) : (!xs.any fun x => !p x) = xs.all p := by
  induction xs with
  | nil => rfl
  | cons x xs ih => simp [List.any_cons, List.all_cons, ← ih]

theorem callWindowsValid (A : Option Addr) (c : Nat) (xs : List Win) (w : World) (B : Nat) (hB : B ≤ w.heap.size) (hm : xs.length ≤ 1073741824) (hr : Rd eWin w B A xs) :
    Calls Tryd.prog 31 #[.slice A xs.length c] w fun e w' => e = .returned (.bool (winsOk xs)) ∧ Below w.heap.size w w' := by
  have HC := Lib.hid (callContainsWin A c xs 39 #[] (fun x => !winOk x) w B hB hm hr egWinsBad (fun x _ w' _ => callWinsBad x w'))
  have E : Hid (winsOk xs = (decide (xs.length ≤ 12) && !xs.any fun x => !winOk x)) := by rw [not_any_not]; rfl
  generalize (xs.any fun x => !winOk x) = q at *
  by_cases hl : xs.length ≤ 12
  all_goals
    go_enter Tryd.func31, Tryd.ntmps31
    go_wp2_with (go_at_call 38; refine HC.out.mono ?_; rintro e w1 ⟨rfl, hb1⟩)
    go_ret
    first | exact ⟨by rw [E.out]; simp [hl], hb1⟩ | exact ⟨by rw [E.out]; simp [hl], Below.refl _ _⟩

/-- The closure of WindowAt. -/
theorem callWinsFit (x : Win) (place : Int) (wr : Bool) (hx : winOk x = true) (b1 b2 : Nat) (w : World) (h1 : w.cell? ⟨b1, 0, none⟩ = some (.int .i64 place)) (h2 : w.cell? ⟨b2, 0, none⟩ = some (.bool wr)) (hb1 : b1 < w.heap.size) (hb2 : b2 < w.heap.size) :
    Calls Tryd.prog 33 (#[x.val] ++ #[.pointer (some ⟨b1, 0, none⟩), .pointer (some ⟨b2, 0, none⟩)]) w fun e w' => e = .returned (.bool (winFits place wr x)) ∧ Below w.heap.size w w' := by
  show Calls Tryd.prog 33 #[x.val, .pointer (some ⟨b1, 0, none⟩), .pointer (some ⟨b2, 0, none⟩)] w _
  have E : Hid (winFits place wr x = (winHas place x && (x.write || !wr))) := rfl
  cases hh : winHas place x
  all_goals
    rw [hh] at E
    have HB := Lib.hid hh
    clear hh
    go_enter Tryd.func33, Tryd.ntmps33
    go_wp2_with fail
    refine (callWinHas x place hx _).mono ?_
    rintro e w1 ⟨rfl, hbl⟩
    rw [HB.out]
    obtain ⟨hc, hf⟩ := bcell hbl
    simp only [World.size_alloc] at hc hf
    have e1 := hc b2 0 (by omega)
    rw [World.cell?_alloc_past _ _ _ hb2, h2] at e1
    have e2 := hc w.heap.size 2 (by omega)
    rw [World.cell?_alloc_at _ _ _ _ rfl] at e2
    have e2 : w1.cell? ⟨w.heap.size, 2, none⟩ = some (.bool x.write) := e2
    clear hc hf
    go_wp2
    all_goals go_ret
    all_goals exact ⟨by rw [E.out]; simp_all, bel_trans (below1 _ _) hbl⟩

theorem callWindowAt (A : Option Addr) (c : Nat) (xs : List Win) (place : Int) (wr : Bool) (w : World) (B : Nat) (hB : B ≤ w.heap.size) (hm : xs.length ≤ 1073741824) (hr : Rd eWin w B A xs) :
    Calls Tryd.prog 25 #[.slice A xs.length c, .int .i64 place, .bool wr] w fun e w' => e = .returned (.int .i64 (winAt xs place wr)) ∧ Below w.heap.size w w' := by
  have hmf := run_makeFunc Tryd.prog
  have E : Hid (winAt xs place wr = if winsOk xs then idx (winFits place wr) xs else -1) := rfl
  cases hok : winsOk xs
  · have HK := Lib.hid hok
    clear hok
    go_enter Tryd.func25, Tryd.ntmps25
    go_wp2_with fail
    refine (callWindowsValid A c xs _ B (by simp; omega) hm (hr.below ((below2 _ _ _).mono hB))).mono ?_
    rintro e w1 ⟨rfl, hb1⟩
    rw [HK.out]
    go_wp2
    go_ret
    exact ⟨by rw [E.out, HK.out]  <;> rfl, bel_trans (below2 _ _ _) hb1⟩
  · have HK := Lib.hid hok
    clear hok
    go_enter Tryd.func25, Tryd.ntmps25
    go_wp2_with fail
    refine (callWindowsValid A c xs _ B (by simp; omega) hm (hr.below ((below2 _ _ _).mono hB))).mono ?_
    rintro e w1 ⟨rfl, hb1⟩
    rw [HK.out]
    obtain ⟨hc, hf⟩ := bcell hb1
    simp only [World.size_alloc] at hc hf
    have e1 := hc w.heap.size 0 (by omega)
    rw [World.cell?_alloc_past _ _ _ (by simp), World.cell?_alloc_at _ _ _ _ rfl] at e1
    have e1 : w1.cell? ⟨w.heap.size, 0, none⟩ = some (.int .i64 place) := e1
    have e2 := hc (w.heap.size + 1) 0 (by omega)
    rw [World.cell?_alloc_at _ _ _ _ (by simp)] at e2
    have e2 : w1.cell? ⟨w.heap.size + 1, 0, none⟩ = some (.bool wr) := e2
    clear hc hf
    have hs : w.heap.size + 1 < w1.heap.size := by have := hb1.size; simp at this; omega
    have HC := Lib.hid (callIndexWin A c xs 33 #[.pointer (some ⟨w.heap.size, 0, none⟩), .pointer (some ⟨w.heap.size + 1, 0, none⟩)] (winFits place wr) w1 B (by omega) hm
      (hr.below ((bel_trans (below2 _ _ _) hb1).mono hB)) egWinsFit
      (fun x hx w' hb' => callWinsFit x place wr (winsOk_mem HK.out hx) _ _ w' ((hb'.cell (by show w.heap.size < w1.heap.size; omega)).trans e1) ((hb'.cell (by show w.heap.size + 1 < w1.heap.size; omega)).trans e2) (by have := hb'.size; omega) (by have := hb'.size; omega)))
    clear e1 e2
    go_wp2_with fail
    refine HC.out.mono ?_
    rintro e w2 ⟨rfl, hb2⟩
    go_wp2
    go_ret
    exact ⟨by rw [E.out, HK.out]  <;> rfl, bel_trans (bel_trans (below2 _ _ _) hb1) hb2⟩

/-- The laws' fixed answer. -/
theorem callAlive (w : World) : Calls Tryd.prog 10 #[] w fun e w' => e = .returned (.bool true) ∧ Below w.heap.size w w' := by
  have hr : ∀ W : World, Rd eWin (W.alloc (.cells #[.int .i64 5, .int .i64 2, .bool false] 47)) (W.alloc (.cells #[.int .i64 5, .int .i64 2, .bool false] 47)).heap.size (some ⟨W.heap.size, 0, none⟩) [⟨5, 2, false⟩] :=
    fun W => Rd.new W _ _ rfl
  go_enter Tryd.func10, Tryd.ntmps10
  go_wp2_with fail
  refine (callWindowAt _ 1 [⟨5, 2, false⟩] 6 false _ _ (Nat.le_refl _) (by decide) (hr _)).mono ?_
  rintro e w1 ⟨rfl, hb1⟩
  rw [show winAt [⟨5, 2, false⟩] 6 false = 0 from by decide]
  go_wp2
  go_ret
  exact ⟨rfl, bel_trans (below1 _ _) hb1⟩

/-! ### The reference's -/


end Go.Proofs.YtonhkadbiepedaaDoor
