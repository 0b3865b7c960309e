/- The functions of lines of the program and of the reference, for every input: valid, raised, masked. -/
import Derived.Test.YtonhkadbiepedaaDoorWin
import Derived.Test.YtonhkadbiepedaaDoorBox
import Derived.Test.YtonhkadbiepedaaDoorLin
import Derived.Deep.QuietTactic
import Derived.Deep.RegionHeld3
namespace Go.Proofs.YtonhkadbiepedaaDoor
open Go.RowKit Go.Sort

abbrev linBox (l : Lin) : Obj := .cells #[.int .i64 l.r, .int .i64 l.m] 24
theorem below4 (w : World) (o o' o'' p : Obj) : Below w.heap.size w ((((w.alloc o).alloc o').alloc o'').alloc p) := bel_trans (below3 w o o' o'') (below1 _ p)
theorem below5 (w : World) (o o' o'' p q : Obj) : Below w.heap.size w (((((w.alloc o).alloc o').alloc o'').alloc p).alloc q) := bel_trans (below4 w o o' o'' p) (below1 _ q)
theorem callLinesValid (l : Lin) (w : World) : Calls Tryd.prog 21 #[l.val] w fun e w' => e = .returned (.bool (linOk l)) ∧ w.alloc (linBox l) = w' := by
  obtain ⟨r, m⟩ := l
  have E : Hid (linOk ⟨r, m⟩ = (inB r 0 255 && inB m 0 255)) := rfl
  cases q : inB r 0 255
  all_goals
    go_enter Tryd.func21, Tryd.ntmps21
    go_wp2_with (go_at_call 22; refine (callIn _ _ _ _).mono ?_; rintro e w' ⟨rfl, rfl⟩)
    go_ret
    exact ⟨by rw [E.out, q] <;> rfl, rfl⟩
theorem callSLinesValid (l : Lin) (w : World) : Calls Tryd.prog 9 #[l.val] w fun e w' => e = .returned (.bool (linOk l)) ∧ w.alloc (linBox l) = w' := by
  obtain ⟨r, m⟩ := l
  have E : Hid (linOk ⟨r, m⟩ = (inB r 0 255 && inB m 0 255)) := rfl
  cases q : inB r 0 255
  all_goals
    go_enter Tryd.func9, Tryd.ntmps9
    go_wp2_with (go_at_call 24; refine (callL1In _ _ _ _).mono ?_; rintro e w' ⟨rfl, rfl⟩)
    go_ret
    exact ⟨by rw [E.out, q] <;> rfl, rfl⟩
theorem callL9Ok (l : Lin) (n : Int) (w : World) : Calls Tryd.prog 23 #[l.val, .int .i64 n] w fun e w' => e = .returned (.bool (linOk l && inB n 0 7)) ∧ (w.alloc (linBox l)).alloc (linBox l) = w' := by
  cases q : linOk l
  all_goals
    go_enter Tryd.func23, Tryd.ntmps23
    go_wp2_with (first | (go_at_call 9; refine (callSLinesValid l _).mono ?_; rintro e w' ⟨rfl, rfl⟩) | (go_at_call 24; refine (callL1In _ _ _ _).mono ?_; rintro e w' ⟨rfl, rfl⟩))
    go_ret
    exact ⟨by simp [q], rfl⟩
set_option maxHeartbeats 800000 in
theorem callRaiseLine (l : Lin) (n : Int) (w : World) : Calls Tryd.prog 13 #[l.val, .int .i64 n] w fun e w' => e = .returned (raiseP l n).val ∧ Below w.heap.size w w' := by
  cases q : (linOk l && inB n 0 7)
  · have E := Lib.hid (raise_bad q)
    obtain ⟨r, m⟩ := l
    cases q1 : linOk ⟨r, m⟩
    · go_enter Tryd.func13, Tryd.ntmps13
      go_wp2_with (first | (go_at_call 21; refine (callLinesValid ⟨r, m⟩ _).mono ?_; rintro e w' ⟨rfl, rfl⟩) | (go_at_call 22; refine (callIn _ _ _ _).mono ?_; rintro e w' ⟨rfl, rfl⟩))
      refine bodyPost_ret (v := .agg #[.int .i64 0, .int .i64 0]) (by simp [results, Tryd.results13, go_sem]) rfl ⟨by rw [E.out], by first | exact below3 _ _ _ _ | exact below_drew (below3 _ _ _ _) | exact below5 _ _ _ _ _ _ | exact below_drew (below5 _ _ _ _ _ _) | exact below_drew (below_drew (below5 _ _ _ _ _ _))⟩
    · have q2 : inB n 0 7 = false := by rw [q1, Bool.true_and] at q; exact q
      go_enter Tryd.func13, Tryd.ntmps13
      go_wp2_with (first | (go_at_call 21; refine (callLinesValid ⟨r, m⟩ _).mono ?_; rintro e w' ⟨rfl, rfl⟩) | (go_at_call 22; refine (callIn _ _ _ _).mono ?_; rintro e w' ⟨rfl, rfl⟩))
      refine bodyPost_ret (v := .agg #[.int .i64 0, .int .i64 0]) (by simp [results, Tryd.results13, go_sem]) rfl ⟨by rw [E.out], by first | exact below3 _ _ _ _ | exact below_drew (below3 _ _ _ _) | exact below5 _ _ _ _ _ _ | exact below_drew (below5 _ _ _ _ _ _) | exact below_drew (below_drew (below5 _ _ _ _ _ _))⟩
  · have q0 := q
    rw [Bool.and_eq_true] at q0
    obtain ⟨q1, q2⟩ := q0
    obtain ⟨k, rfl⟩ : ∃ k : Nat, n = (k : Int) := ⟨n.toNat, by have := inB_iff.1 q2; omega⟩
    have hk : k < 8 := by have := inB_iff.1 q2; omega
    obtain ⟨a, b, rfl, ha, hb⟩ := lin_nat q1
    obtain ⟨s1, s2⟩ := shlw hk
    have hp := pow_lt hk
    have E := Lib.hid (raise_ok ha hb hk)
    generalize (2 ^ k : Nat) = p at *
    have ho := or_i64 a p ha hp
    go_enter Tryd.func13, Tryd.ntmps13
    go_wp2_with (first | (go_at_call 21; refine (callLinesValid ⟨(a : Int), (b : Int)⟩ _).mono ?_; rintro e w' ⟨rfl, rfl⟩) | (go_at_call 22; refine (callIn _ _ _ _).mono ?_; rintro e w' ⟨rfl, rfl⟩))
    go_region
    all_goals go_wp2
    all_goals refine bodyPost_ret (v := .agg #[.int .i64 ((a ||| p : Nat) : Int), .int .i64 b]) (by simp [results, Tryd.results13, go_sem]) rfl ⟨by rw [E.out], by first | exact below3 _ _ _ _ | exact below_drew (below3 _ _ _ _) | exact below5 _ _ _ _ _ _ | exact below_drew (below5 _ _ _ _ _ _) | exact below_drew (below_drew (below5 _ _ _ _ _ _))⟩
set_option maxHeartbeats 800000 in
theorem callSRaiseLine (l : Lin) (n : Int) (w : World) : Calls Tryd.prog 14 #[l.val, .int .i64 n] w fun e w' => e = .returned (raiseP l n).val ∧ Below w.heap.size w w' := by
  cases q : (linOk l && inB n 0 7)
  · have E := Lib.hid (raise_bad q)
    obtain ⟨r, m⟩ := l
    go_enter Tryd.func14, Tryd.ntmps14
    go_wp2_with (go_at_call 23; refine (callL9Ok ⟨r, m⟩ n _).mono ?_; rintro e w' ⟨rfl, rfl⟩)
    refine bodyPost_ret (v := .agg #[.int .i64 0, .int .i64 0]) (by simp [results, Tryd.results14, go_sem]) rfl ⟨by rw [E.out], by first | exact below4 _ _ _ _ _ | exact below_drew (below4 _ _ _ _ _) | exact below5 _ _ _ _ _ _ | exact below_drew (below5 _ _ _ _ _ _) | exact below_drew (below_drew (below5 _ _ _ _ _ _))⟩
  · have q0 := q
    rw [Bool.and_eq_true] at q0
    obtain ⟨q1, q2⟩ := q0
    obtain ⟨k, rfl⟩ : ∃ k : Nat, n = (k : Int) := ⟨n.toNat, by have := inB_iff.1 q2; omega⟩
    have hk : k < 8 := by have := inB_iff.1 q2; omega
    obtain ⟨a, b, rfl, ha, hb⟩ := lin_nat q1
    obtain ⟨s1, s2⟩ := shlw hk
    have hp := pow_lt hk
    have E := Lib.hid (raise_ok ha hb hk)
    generalize (2 ^ k : Nat) = p at *
    have ho := or_i64 a p ha hp
    go_enter Tryd.func14, Tryd.ntmps14
    go_wp2_with (first | (go_at_call 23; refine (callL9Ok ⟨(a : Int), (b : Int)⟩ (k : Int) _).mono ?_; rintro e w' ⟨rfl, rfl⟩) | fail)
    go_region
    all_goals go_wp2
    all_goals refine bodyPost_ret (v := .agg #[.int .i64 ((a ||| p : Nat) : Int), .int .i64 b]) (by simp [results, Tryd.results14, go_sem]) rfl ⟨by rw [E.out], by first | exact below4 _ _ _ _ _ | exact below_drew (below4 _ _ _ _ _) | exact below5 _ _ _ _ _ _ | exact below_drew (below5 _ _ _ _ _ _) | exact below_drew (below_drew (below5 _ _ _ _ _ _))⟩
set_option maxHeartbeats 800000 in
theorem callMaskLine (l : Lin) (n : Int) (on : Bool) (w : World) : Calls Tryd.prog 7 #[l.val, .int .i64 n, .bool on] w fun e w' => e = .returned (maskP l n on).val ∧ Below w.heap.size w w' := by
  cases q : (linOk l && inB n 0 7)
  · have E := Lib.hid (mask_bad on q)
    obtain ⟨r, m⟩ := l
    cases q1 : linOk ⟨r, m⟩
    · go_enter Tryd.func7, Tryd.ntmps7
      go_wp2_with (first | (go_at_call 21; refine (callLinesValid ⟨r, m⟩ _).mono ?_; rintro e w' ⟨rfl, rfl⟩) | (go_at_call 22; refine (callIn _ _ _ _).mono ?_; rintro e w' ⟨rfl, rfl⟩))
      refine bodyPost_ret (v := .agg #[.int .i64 0, .int .i64 0]) (by simp [results, Tryd.results7, go_sem]) rfl ⟨by rw [E.out], by first | exact below3 _ _ _ _ | exact below_drew (below3 _ _ _ _) | exact below5 _ _ _ _ _ _ | exact below_drew (below5 _ _ _ _ _ _) | exact below_drew (below_drew (below5 _ _ _ _ _ _))⟩
    · have q2 : inB n 0 7 = false := by rw [q1, Bool.true_and] at q; exact q
      go_enter Tryd.func7, Tryd.ntmps7
      go_wp2_with (first | (go_at_call 21; refine (callLinesValid ⟨r, m⟩ _).mono ?_; rintro e w' ⟨rfl, rfl⟩) | (go_at_call 22; refine (callIn _ _ _ _).mono ?_; rintro e w' ⟨rfl, rfl⟩))
      refine bodyPost_ret (v := .agg #[.int .i64 0, .int .i64 0]) (by simp [results, Tryd.results7, go_sem]) rfl ⟨by rw [E.out], by first | exact below3 _ _ _ _ | exact below_drew (below3 _ _ _ _) | exact below5 _ _ _ _ _ _ | exact below_drew (below5 _ _ _ _ _ _) | exact below_drew (below_drew (below5 _ _ _ _ _ _))⟩
  · have q0 := q
    rw [Bool.and_eq_true] at q0
    obtain ⟨q1, q2⟩ := q0
    obtain ⟨k, rfl⟩ : ∃ k : Nat, n = (k : Int) := ⟨n.toNat, by have := inB_iff.1 q2; omega⟩
    have hk : k < 8 := by have := inB_iff.1 q2; omega
    obtain ⟨a, b, rfl, ha, hb⟩ := lin_nat q1
    obtain ⟨s1, s2⟩ := shlw hk
    have hp := pow_lt hk
    cases on
    · have E : Hid (maskP ⟨(a : Int), (b : Int)⟩ (k : Int) false = ⟨(a : Int), ((b &&& (255 - 2 ^ k) : Nat) : Int)⟩) := mask_ok false ha hb hk
      generalize (2 ^ k : Nat) = p at *
      have ho := and_i64 b p hb hp
      go_enter Tryd.func7, Tryd.ntmps7
      go_wp2_with (first | (go_at_call 21; refine (callLinesValid ⟨(a : Int), (b : Int)⟩ _).mono ?_; rintro e w' ⟨rfl, rfl⟩) | (go_at_call 22; refine (callIn _ _ _ _).mono ?_; rintro e w' ⟨rfl, rfl⟩))
      go_region
      all_goals go_wp2
      all_goals refine bodyPost_ret (v := .agg #[.int .i64 (a : Int), .int .i64 ((b &&& (255 - p) : Nat) : Int)]) (by simp [results, Tryd.results7, go_sem]) rfl ⟨by rw [E.out], by first | exact below3 _ _ _ _ | exact below_drew (below3 _ _ _ _) | exact below5 _ _ _ _ _ _ | exact below_drew (below5 _ _ _ _ _ _) | exact below_drew (below_drew (below5 _ _ _ _ _ _))⟩
    · have E : Hid (maskP ⟨(a : Int), (b : Int)⟩ (k : Int) true = ⟨(a : Int), ((b ||| 2 ^ k : Nat) : Int)⟩) := mask_ok true ha hb hk
      generalize (2 ^ k : Nat) = p at *
      have ho := or_i64 b p hb hp
      go_enter Tryd.func7, Tryd.ntmps7
      go_wp2_with (first | (go_at_call 21; refine (callLinesValid ⟨(a : Int), (b : Int)⟩ _).mono ?_; rintro e w' ⟨rfl, rfl⟩) | (go_at_call 22; refine (callIn _ _ _ _).mono ?_; rintro e w' ⟨rfl, rfl⟩))
      go_region
      all_goals go_wp2
      all_goals refine bodyPost_ret (v := .agg #[.int .i64 (a : Int), .int .i64 ((b ||| p : Nat) : Int)]) (by simp [results, Tryd.results7, go_sem]) rfl ⟨by rw [E.out], by first | exact below3 _ _ _ _ | exact below_drew (below3 _ _ _ _) | exact below5 _ _ _ _ _ _ | exact below_drew (below5 _ _ _ _ _ _) | exact below_drew (below_drew (below5 _ _ _ _ _ _))⟩
set_option maxHeartbeats 800000 in
theorem callSMaskLine (l : Lin) (n : Int) (on : Bool) (w : World) : Calls Tryd.prog 8 #[l.val, .int .i64 n, .bool on] w fun e w' => e = .returned (maskP l n on).val ∧ Below w.heap.size w w' := by
  cases q : (linOk l && inB n 0 7)
  · have E := Lib.hid (mask_bad on q)
    obtain ⟨r, m⟩ := l
    go_enter Tryd.func8, Tryd.ntmps8
    go_wp2_with (go_at_call 23; refine (callL9Ok ⟨r, m⟩ n _).mono ?_; rintro e w' ⟨rfl, rfl⟩)
    refine bodyPost_ret (v := .agg #[.int .i64 0, .int .i64 0]) (by simp [results, Tryd.results8, go_sem]) rfl ⟨by rw [E.out], by first | exact below4 _ _ _ _ _ | exact below_drew (below4 _ _ _ _ _) | exact below5 _ _ _ _ _ _ | exact below_drew (below5 _ _ _ _ _ _) | exact below_drew (below_drew (below5 _ _ _ _ _ _))⟩
  · have q0 := q
    rw [Bool.and_eq_true] at q0
    obtain ⟨q1, q2⟩ := q0
    obtain ⟨k, rfl⟩ : ∃ k : Nat, n = (k : Int) := ⟨n.toNat, by have := inB_iff.1 q2; omega⟩
    have hk : k < 8 := by have := inB_iff.1 q2; omega
    obtain ⟨a, b, rfl, ha, hb⟩ := lin_nat q1
    obtain ⟨s1, s2⟩ := shlw hk
    have hp := pow_lt hk
    cases on
    · have E : Hid (maskP ⟨(a : Int), (b : Int)⟩ (k : Int) false = ⟨(a : Int), ((b &&& (255 - 2 ^ k) : Nat) : Int)⟩) := mask_ok false ha hb hk
      generalize (2 ^ k : Nat) = p at *
      have ho := and_i64 b p hb hp
      go_enter Tryd.func8, Tryd.ntmps8
      go_wp2_with (first | (go_at_call 23; refine (callL9Ok ⟨(a : Int), (b : Int)⟩ (k : Int) _).mono ?_; rintro e w' ⟨rfl, rfl⟩) | fail)
      go_region
      all_goals go_wp2
      all_goals refine bodyPost_ret (v := .agg #[.int .i64 (a : Int), .int .i64 ((b &&& (255 - p) : Nat) : Int)]) (by simp [results, Tryd.results8, go_sem]) rfl ⟨by rw [E.out], by first | exact below4 _ _ _ _ _ | exact below_drew (below4 _ _ _ _ _) | exact below5 _ _ _ _ _ _ | exact below_drew (below5 _ _ _ _ _ _) | exact below_drew (below_drew (below5 _ _ _ _ _ _))⟩
    · have E : Hid (maskP ⟨(a : Int), (b : Int)⟩ (k : Int) true = ⟨(a : Int), ((b ||| 2 ^ k : Nat) : Int)⟩) := mask_ok true ha hb hk
      have hor : (b &&& (255 - 2 ^ k)) ||| 2 ^ k = b ||| 2 ^ k := set_clr ⟨b, hb⟩ ⟨k, hk⟩
      generalize (2 ^ k : Nat) = p at *
      have ho := and_i64 b p hb hp
      have ho2 : bits .or .i64 ((b &&& (255 - p) : Nat) : Int) (p : Int) = ((b ||| p : Nat) : Int) := by rw [or_i64 _ p (and_lt hb) hp, hor]
      go_enter Tryd.func8, Tryd.ntmps8
      go_wp2_with (first | (go_at_call 23; refine (callL9Ok ⟨(a : Int), (b : Int)⟩ (k : Int) _).mono ?_; rintro e w' ⟨rfl, rfl⟩) | fail)
      go_region
      all_goals go_wp2
      all_goals go_region
      all_goals go_wp2
      all_goals refine bodyPost_ret (v := .agg #[.int .i64 (a : Int), .int .i64 ((b ||| p : Nat) : Int)]) (by simp [results, Tryd.results8, go_sem]) rfl ⟨by rw [E.out], by first | exact below4 _ _ _ _ _ | exact below_drew (below4 _ _ _ _ _) | exact below5 _ _ _ _ _ _ | exact below_drew (below5 _ _ _ _ _ _) | exact below_drew (below_drew (below5 _ _ _ _ _ _))⟩
end Go.Proofs.YtonhkadbiepedaaDoor
