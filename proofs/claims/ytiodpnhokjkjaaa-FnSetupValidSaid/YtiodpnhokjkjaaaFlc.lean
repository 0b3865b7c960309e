/- Channels, and who may have influence: the program's functions, for every input. -/
import Derived.Test.YtiodpnhokjkjaaaFlo
import Derived.Test.YtiodpnhokjkjaaaIdx
import Derived.Test.YtiodpnhokjkjaaaWin
import Derived.Test.YtiodpnhokjkjaaaLib
import Derived.Test.YtiodpnhokjkjaaaBox
namespace Go.Proofs.Ytiodpnhokjkjaaa
open Go.RowKit Go.Sort

set_option maxHeartbeats 800000 in
theorem callSized (k s : Int) (w : World) : Calls Try.prog 78 #[.int .i64 k, .int .i64 s] w fun e w' => e = .returned (.bool (sizedB k s)) ∧ w = w' := by
  have E : Hid (sizedB k s = ((k == 1 && s == 1) || ((k == 2 || k == 3) && inB s 1 4))) := rfl
  obtain ⟨b, hb⟩ : ∃ b, b = sizedB k s := ⟨_, rfl⟩
  rw [← hb] at E ⊢
  clear hb
  by_cases h1 : k = 1
  · subst h1
    cases hs : (s == 1)
    all_goals
      rw [hs] at E
      go_enter Try.func78, Try.ntmps78
      go_wp2_with (go_at_call 49; refine (callIn _ _ _ _).mono ?_; rintro e w' ⟨rfl, rfl⟩)
      go_ret
      exact ⟨by rw [E.out] <;> rfl, rfl⟩
  · have k1 : (k == 1) = false := by rw [beq_eq_false_iff_ne]; exact h1
    rw [k1] at E
    cases k2 : (k == 2)
    · cases k3 : (k == 3)
      all_goals
        rw [k2, k3] at E
        go_enter Try.func78, Try.ntmps78
        go_wp2_with (go_at_call 49; refine (callIn _ _ _ _).mono ?_; rintro e w' ⟨rfl, rfl⟩)
        go_ret
        exact ⟨by rw [E.out] <;> rfl, rfl⟩
    · rw [k2] at E
      go_enter Try.func78, Try.ntmps78
      go_wp2_with (go_at_call 49; refine (callIn _ _ _ _).mono ?_; rintro e w' ⟨rfl, rfl⟩)
      go_ret
      exact ⟨by rw [E.out] <;> rfl, rfl⟩
theorem cell4 {w : World} {b : Nat} {x y z t : Value} {T : TypeId} (h : w.heap[b]? = some (.cells #[x, y, z, t] T (0, 0))) : w.cell? ⟨b, 0, none⟩ = some x ∧ w.cell? ⟨b, 1, none⟩ = some y ∧ w.cell? ⟨b, 2, none⟩ = some z ∧ w.cell? ⟨b, 3, none⟩ = some t :=
  ⟨by rw [cell_of_row w b 0 _ _ _ h]; rfl, by rw [cell_of_row w b 1 _ _ _ h]; rfl, by rw [cell_of_row w b 2 _ _ _ h]; rfl, by rw [cell_of_row w b 3 _ _ _ h]; rfl⟩
set_option maxHeartbeats 1600000 in
/-- The closure of ChannelsValid. -/
theorem callChnBad (x : Chn) (parts : Int) (hp1 : -10 ≤ parts) (hp2 : parts ≤ 10) (b1 : Nat) (w : World) (h1 : w.cell? ⟨b1, 0, none⟩ = some (.int .i64 parts)) (hb1 : b1 < w.heap.size) :
    Calls Try.prog 77 (#[x.val] ++ #[.pointer (some ⟨b1, 0, none⟩)]) w fun e w' => e = .returned (.bool (!chnB parts x)) ∧ Below w.heap.size w w' := by
  show Calls Try.prog 77 #[x.val, .pointer (some ⟨b1, 0, none⟩)] w _
  obtain ⟨k, f, t, s⟩ := x
  have E : Hid (chnB parts ⟨k, f, t, s⟩ = (((sizedB k s && inB f 0 (parts - 1)) && inB t 0 (parts - 1)) && !(f == t))) := rfl
  obtain ⟨b, hb⟩ : ∃ b, b = chnB parts ⟨k, f, t, s⟩ := ⟨_, rfl⟩
  rw [← hb] at E ⊢
  clear hb
  cases q1 : sizedB k s
  · rw [q1] at E
    go_enter Try.func77, Try.ntmps77
    go_wp2_with (first | (go_at_call 78; refine (callSized _ _ _).mono ?_; rintro e w' ⟨rfl, rfl⟩) | (go_at_call 49; refine (callIn _ _ _ _).mono ?_; rintro e w' ⟨rfl, rfl⟩))
    go_ret
    exact ⟨by rw [E.out] <;> rfl, below1 _ _⟩
  · cases q2 : inB f 0 (parts - 1)
    · rw [q1, q2] at E
      go_enter Try.func77, Try.ntmps77
      go_wp2_with (first | (go_at_call 78; refine (callSized _ _ _).mono ?_; rintro e w' ⟨rfl, rfl⟩) | (go_at_call 49; refine (callIn _ _ _ _).mono ?_; rintro e w' ⟨rfl, rfl⟩))
      go_ret
      exact ⟨by rw [E.out] <;> rfl, below1 _ _⟩
    · cases q3 : inB t 0 (parts - 1)
      all_goals
        rw [q1, q2, q3] at E
        go_enter Try.func77, Try.ntmps77
        go_wp2_with (first | (go_at_call 78; refine (callSized _ _ _).mono ?_; rintro e w' ⟨rfl, rfl⟩) | (go_at_call 49; refine (callIn _ _ _ _).mono ?_; rintro e w' ⟨rfl, rfl⟩))
        go_ret
        exact ⟨by rw [E.out]; simp, below1 _ _⟩

theorem egChnBad : ∀ (args : Array Value) (w : World), (callFunc 77 args).run Try.prog w = .ok (.enter 77 args) w := enters_fn Try.func77 (by kernel_rfl) rfl
theorem not_any_chn (parts : Int) (cs : List Chn) : (!cs.any fun x => !chnB parts x) = cs.all (chnB parts) := by
  induction cs with
  | nil => rfl
  | cons x xs ih => rw [List.any_cons, List.all_cons, Bool.not_or, ih]; simp

set_option maxHeartbeats 800000 in
theorem callChannelsValid (A : Option Addr) (c : Nat) (cs : List Chn) (parts : Int) (w : World) (B : Nat) (hB : B ≤ w.heap.size) (hm : cs.length ≤ 1048576) (hp1 : -10 ≤ parts) (hp2 : parts ≤ 10) (hr : Rd eChn w B A cs) :
    Calls Try.prog 48 #[.slice A cs.length c, .int .i64 parts] w fun e w' => e = .returned (.bool (chansB cs parts)) ∧ Below w.heap.size w w' := by
  have hmf := run_makeFunc Try.prog
  have E : Hid (chansB cs parts = ((inB parts 0 5 && decide (cs.length ≤ 8)) && !cs.any fun x => !chnB parts x)) := by rw [not_any_chn]; rfl
  have HC := Lib.hid (callContainsChn A c cs 77 #[.pointer (some ⟨w.heap.size, 0, none⟩)] (fun x => !chnB parts x) (w.alloc (.cells #[.int .i64 parts] 3)) B (by simp; omega) (by omega) (hr.below ((below1 _ _).mono hB)) egChnBad
    (fun x _ w' hb => callChnBad x parts hp1 hp2 w.heap.size w' ((hb.cell (by show w.heap.size < (w.alloc _).heap.size; simp)).trans (by rw [World.cell?_alloc_new]; rfl)) (by have := hb.size; simp at this; omega)))
  clear hr
  obtain ⟨r, hr⟩ : ∃ r, r = chansB cs parts := ⟨_, rfl⟩
  rw [← hr] at E ⊢
  clear hr
  generalize (cs.any fun x => !chnB parts x) = q at *
  cases q1 : inB parts 0 5
  · rw [q1] at E
    go_enter Try.func48, Try.ntmps48
    go_wp2_with (go_at_call 49; refine (callIn _ _ _ _).mono ?_; rintro e w' ⟨rfl, rfl⟩)
    go_ret
    exact ⟨by rw [E.out] <;> rfl, below1 _ _⟩
  · by_cases h8 : cs.length ≤ 8
    · have hd : decide (cs.length ≤ 8) = true := decide_eq_true h8
      have hdi : decide ((cs.length : Int) ≤ 8) = true := decide_eq_true (by omega)
      rw [q1, hd] at E
      go_enter Try.func48, Try.ntmps48
      go_wp2_with (first | (go_at_call 49; refine (callIn _ _ _ _).mono ?_; rintro e w' ⟨rfl, rfl⟩) | (go_at_call 76; refine HC.out.mono ?_; rintro e w1 ⟨rfl, hb1⟩))
      go_ret
      exact ⟨by rw [E.out]; simp, bel_trans (below1 _ _) hb1⟩
    · have hd : decide (cs.length ≤ 8) = false := decide_eq_false h8
      have hdi : decide ((cs.length : Int) ≤ 8) = false := decide_eq_false (by omega)
      rw [q1, hd] at E
      go_enter Try.func48, Try.ntmps48
      go_wp2_with (go_at_call 49; refine (callIn _ _ _ _).mono ?_; rintro e w' ⟨rfl, rfl⟩)
      go_ret
      exact ⟨by rw [E.out] <;> rfl, below1 _ _⟩
set_option maxHeartbeats 1600000 in
/-- The closure of direct. -/
theorem callCarries (x : Chn) (f t : Int) (b1 b2 : Nat) (w : World) (h1 : w.cell? ⟨b1, 0, none⟩ = some (.int .i64 f)) (h2 : w.cell? ⟨b2, 0, none⟩ = some (.int .i64 t)) (hb1 : b1 < w.heap.size) (hb2 : b2 < w.heap.size) :
    Calls Try.prog 91 (#[x.val] ++ #[.pointer (some ⟨b1, 0, none⟩), .pointer (some ⟨b2, 0, none⟩)]) w fun e w' => e = .returned (.bool (carries f t x)) ∧ Below w.heap.size w w' := by
  show Calls Try.prog 91 #[x.val, .pointer (some ⟨b1, 0, none⟩), .pointer (some ⟨b2, 0, none⟩)] w _
  obtain ⟨k, a, b, s⟩ := x
  have E : Hid (carries f t ⟨k, a, b, s⟩ = ((a == f && b == t) || ((k == 3 && a == t) && b == f))) := rfl
  obtain ⟨r, hr⟩ : ∃ r, r = carries f t ⟨k, a, b, s⟩ := ⟨_, rfl⟩
  rw [← hr] at E ⊢
  clear hr
  cases q1 : (a == f) <;> cases q2 : (b == t) <;> cases q3 : (k == 3) <;> cases q4 : (a == t)
  all_goals
    rw [q1, q2, q3, q4] at E
    go_enter Try.func91, Try.ntmps91
    go_wp2
    go_ret
    exact ⟨by rw [E.out] <;> rfl, below1 _ _⟩
theorem egCarries : ∀ (args : Array Value) (w : World), (callFunc 91 args).run Try.prog w = .ok (.enter 91 args) w := enters_fn Try.func91 (by kernel_rfl) rfl
set_option maxHeartbeats 800000 in
theorem callDirect (A : Option Addr) (c : Nat) (cs : List Chn) (f t : Int) (w : World) (B : Nat) (hB : B ≤ w.heap.size) (hm : cs.length ≤ 1048576) (hr : Rd eChn w B A cs) :
    Calls Try.prog 62 #[.slice A cs.length c, .int .i64 f, .int .i64 t] w fun e w' => e = .returned (.bool (dirB cs f t)) ∧ Below w.heap.size w w' := by
  have hmf := run_makeFunc Try.prog
  have E : Hid (dirB cs f t = (f == t || cs.any (carries f t))) := rfl
  have z1 : ((w.alloc (.cells #[.int .i64 f] 3)).alloc (.cells #[.int .i64 t] 3)).cell? ⟨w.heap.size, 0, none⟩ = some (.int .i64 f) := (cell1 (alloc_at0 w _ _)).1
  have z2 : ((w.alloc (.cells #[.int .i64 f] 3)).alloc (.cells #[.int .i64 t] 3)).cell? ⟨w.heap.size + 1, 0, none⟩ = some (.int .i64 t) := (cell1 (alloc_at1 w _ _)).1
  have HC := Lib.hid (callContainsChn A c cs 91 #[.pointer (some ⟨w.heap.size, 0, none⟩), .pointer (some ⟨w.heap.size + 1, 0, none⟩)] (carries f t) ((w.alloc (.cells #[.int .i64 f] 3)).alloc (.cells #[.int .i64 t] 3)) B (by simp; omega) (by omega) (hr.below ((below2 _ _ _).mono hB)) egCarries
    (fun x _ w' hb => callCarries x f t w.heap.size (w.heap.size + 1) w' ((hb.cell (by show w.heap.size < ((w.alloc _).alloc _).heap.size; simp; omega)).trans z1) ((hb.cell (by show w.heap.size + 1 < ((w.alloc _).alloc _).heap.size; simp)).trans z2) (by have := hb.size; simp at this; omega) (by have := hb.size; simp at this; omega)))
  clear hr z1 z2
  obtain ⟨r, hr⟩ : ∃ r, r = dirB cs f t := ⟨_, rfl⟩
  rw [← hr] at E ⊢
  clear hr
  generalize (cs.any (carries f t)) = q at *
  cases q1 : (f == t)
  · rw [q1] at E
    go_enter Try.func62, Try.ntmps62
    go_wp2_with (go_at_call 76; refine HC.out.mono ?_; rintro e w1 ⟨rfl, hb1⟩)
    go_ret
    exact ⟨by rw [E.out]; simp, bel_trans (below2 _ _ _) hb1⟩
  · rw [q1] at E
    go_enter Try.func62, Try.ntmps62
    go_wp2
    go_ret
    exact ⟨by rw [E.out] <;> rfl, below2 _ _ _⟩
end Go.Proofs.Ytiodpnhokjkjaaa
