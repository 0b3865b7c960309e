/- What is valid: programs and cores of the reference, for every input. -/
import Derived.Test.YtiodpnhokjkjaaaCol
import Derived.Deep.CutBlock
namespace Go.Proofs.Ytiodpnhokjkjaaa
open Go.RowKit Go.Sort

theorem wrap64_eq (x : Int) : wrap64 x = IntKind.i64.wrap x := by rw [IntKind.wrap_i64, wrap64]
theorem progB_of {os : List Ord3} {cells : Int} : progB os cells = ((inB os.length 1 20 && inB cells 1 8) && os.all (ordB (IntKind.i64.wrap (cells - 1) + 1) os.length)) := by
  unfold progB
  cases q : inB cells 1 8
  · rw [Bool.and_false, Bool.false_and, Bool.false_and]
  · have h := inB_iff.1 q
    have e : IntKind.i64.wrap (cells - 1) = cells - 1 := IntWalk.i64_in _ (by omega)
    rw [e, show cells - 1 + 1 = cells by omega]
set_option maxRecDepth 100000 in
set_option maxHeartbeats 6400000 in
theorem callSProgValid (A : Option Addr) (c : Nat) (os : List Ord3) (cells : Int) (w : World) (B : Nat) (hB : B ≤ w.heap.size) (hm : os.length ≤ 1048576) (hr : Rd eOrd w B A os) :
    Calls Try.prog 59 #[.slice A os.length c, .int .i64 cells] w fun e w' => e = .returned (.bool (progB os cells)) ∧ Below w.heap.size w w' := by
  have HR := Lib.hid hr
  have E : Hid (progB os cells = ((inB os.length 1 20 && inB cells 1 8) && os.all (ordB (IntKind.i64.wrap (cells - 1) + 1) os.length))) := progB_of
  obtain ⟨hi, hhi⟩ : ∃ hi, hi = IntKind.i64.wrap (cells - 1) := ⟨_, rfl⟩
  rw [← hhi] at E
  obtain ⟨P, hP⟩ : ∃ P, P = progB os cells := ⟨_, rfl⟩
  rw [← hP] at E ⊢
  have hw1 := hhi.symm
  clear hr hP hhi
  go_enter Try.func59, Try.ntmps59
  go_wp2
  go_loopw [5] (fun i wr => ∃ k : Nat, k ≤ os.length ∧ i = .int .i64 k ∧ Hid (Below w.heap.size w wr) ∧ Hid (∀ i (_ : i < k) (h : i < os.length), ordB (hi + 1) os.length os[i] = true)) (fun i _ => os.length - (intOf i).toNat)
  case atStart => exact ⟨0, by omega, rfl, Below.refl _ _, fun i hi => by omega⟩
  case round =>
    obtain ⟨k, hk, rfl, HB, HV⟩ := hrel
    by_cases hlt : k < os.length
    · have hd : decide ((k : Int) < (os.length : Int)) = true := decide_eq_true (by omega)
      have hd2 : decide (k < os.length) = true := decide_eq_true hlt
      obtain ⟨b, off, rfl, hbB, o1, o2, o3⟩ := (HR.out.below (HB.out.mono hB)).at3 rfl hlt rfl
      obtain ⟨o, ho⟩ : ∃ o, o = os[k] := ⟨_, rfl⟩
      have HO := Lib.hid ho
      rw [← ho] at o1 o2 o3
      clear ho
      obtain ⟨op, a, b'⟩ := o
      simp only at o1 o2 o3
      have hw2 : IntKind.i64.wrap ((os.length : Int) - 1) = (os.length : Int) - 1 := IntWalk.i64_in _ (by omega)
      have hw4 : wrap64 (cells - 1) = hi := (wrap64_eq _).trans hw1
      go_upto_block 2 with (go_at_call 52; refine (callL1In _ _ _ _).mono ?_; rintro e w' ⟨rfl, rfl⟩)
      clear hw1 hw4
      have HB2 := Lib.hid (bel_trans HB.out (below1 wr (.cells #[.int .i64 op, .int .i64 a, .int .i64 b'] 41)))
      obtain ⟨u, hu⟩ : ∃ u, u = wr.alloc (.cells #[.int .i64 op, .int .i64 a, .int .i64 b'] 41) := ⟨_, rfl⟩
      obtain ⟨x0, x1, x2, _, _, _, _⟩ := cell3 (heap_alloc_new wr (.cells #[.int .i64 op, .int .i64 a, .int .i64 b'] 41))
      obtain ⟨z, hz⟩ : ∃ z, z = wr.heap.size := ⟨_, rfl⟩
      rw [← hu] at HB2 x0 x1 x2 ⊢
      rw [← hz] at x0 x1 x2 ⊢
      clear hu hz o1 o2 o3 HB
      have hop : op = 1 ∨ op = 2 ∨ op = 3 ∨ op = 7 ∨ op = 4 ∨ op = 5 ∨ op = 6 ∨ op = 0 ∨ op = 8 ∨ (op ≠ 1 ∧ op ≠ 2 ∧ op ≠ 3 ∧ op ≠ 4 ∧ op ≠ 5 ∧ op ≠ 6 ∧ op ≠ 7 ∧ op ≠ 0 ∧ op ≠ 8) := by omega
      have HOP := Lib.hid hop
      clear hop
      obtain ⟨ok, hok⟩ : ∃ ok, ok = ordB (hi + 1) os.length ⟨op, a, b'⟩ := ⟨_, rfl⟩
      have HOK := Lib.hid hok
      clear hok
      obtain ⟨qa, hqa⟩ : ∃ qa, qa = inB a 0 hi := ⟨_, rfl⟩
      rw [← hqa]
      have HQA := Lib.hid hqa
      clear hqa
      go_cut [9] (fun s9 wx => s9 = .bool ok ∧ wx = u)
      case first =>
        rcases HOP.out with h | h | h | h | h | h | h | h | h | h
        · subst h
          have EO := Lib.hid (ordB_op1 (hi + 1) os.length a b')
          rw [Int.add_sub_cancel] at EO
          clear HOP
          rw [← HQA.out] at EO
          clear HQA
          cases qa
          all_goals
            go_wp2_with (go_at_call 52; refine (callL1In _ _ _ _).mono ?_; rintro e w' ⟨rfl, rfl⟩)
            go_meet
            case rel => exact ⟨by rw [HOK.out, EO.out] <;> rfl, rfl⟩
        · subst h
          have EO := Lib.hid (ordB_op2 (hi + 1) os.length a b')
          rw [Int.add_sub_cancel] at EO
          clear HOP
          rw [← HQA.out] at EO
          clear HQA
          cases qa
          all_goals
            go_wp2_with (go_at_call 52; refine (callL1In _ _ _ _).mono ?_; rintro e w' ⟨rfl, rfl⟩)
            go_meet
            case rel => exact ⟨by rw [HOK.out, EO.out] <;> rfl, rfl⟩
        · subst h
          have EO := Lib.hid (ordB_op3 (hi + 1) os.length a b')
          rw [Int.add_sub_cancel] at EO
          clear HOP
          rw [← HQA.out] at EO
          clear HQA
          cases qa
          all_goals
            go_wp2_with (go_at_call 52; refine (callL1In _ _ _ _).mono ?_; rintro e w' ⟨rfl, rfl⟩)
            go_meet
            case rel => exact ⟨by rw [HOK.out, EO.out] <;> rfl, rfl⟩
        · subst h
          have EO := Lib.hid (ordB_op7 (hi + 1) os.length a b')
          rw [Int.add_sub_cancel] at EO
          clear HOP
          rw [← HQA.out] at EO
          clear HQA
          cases qa
          all_goals
            go_wp2_with (go_at_call 52; refine (callL1In _ _ _ _).mono ?_; rintro e w' ⟨rfl, rfl⟩)
            go_meet
            case rel => exact ⟨by rw [HOK.out, EO.out] <;> rfl, rfl⟩
        · subst h
          have EO := Lib.hid (ordB_op4 (hi + 1) os.length a b')
          rw [Int.add_sub_cancel] at EO
          clear HOP
          cases q1 : inB a 0 ((os.length : Int) - 1)
          all_goals
            go_wp2_with (go_at_call 52; refine (callL1In _ _ _ _).mono ?_; rintro e w' ⟨rfl, rfl⟩)
            go_meet
            case rel => exact ⟨by rw [HOK.out, EO.out, q1] <;> rfl, rfl⟩
        · subst h
          have EO := Lib.hid (ordB_op5 (hi + 1) os.length a b')
          rw [Int.add_sub_cancel] at EO
          clear HOP
          cases q1 : inB a 0 7
          all_goals
            go_wp2_with (go_at_call 52; refine (callL1In _ _ _ _).mono ?_; rintro e w' ⟨rfl, rfl⟩)
            go_meet
            case rel => exact ⟨by rw [HOK.out, EO.out, q1] <;> rfl, rfl⟩
        · subst h
          have EO := Lib.hid (ordB_op6 (hi + 1) os.length a b')
          rw [Int.add_sub_cancel] at EO
          clear HOP
          cases q1 : inB a 0 7
          all_goals
            go_wp2_with (go_at_call 52; refine (callL1In _ _ _ _).mono ?_; rintro e w' ⟨rfl, rfl⟩)
            go_meet
            case rel => exact ⟨by rw [HOK.out, EO.out, q1] <;> rfl, rfl⟩
        · subst h
          have EO := Lib.hid (ordB_op0 (hi + 1) os.length a b')
          clear HOP
          cases q1 : (a == 0)
          all_goals
            go_wp2_with (go_at_call 52; refine (callL1In _ _ _ _).mono ?_; rintro e w' ⟨rfl, rfl⟩)
            go_meet
            case rel => exact ⟨by rw [HOK.out, EO.out, q1] <;> rfl, rfl⟩
        · subst h
          have EO := Lib.hid (ordB_op8 (hi + 1) os.length a b')
          clear HOP
          cases q1 : (a == 0)
          all_goals
            go_wp2_with (go_at_call 52; refine (callL1In _ _ _ _).mono ?_; rintro e w' ⟨rfl, rfl⟩)
            go_meet
            case rel => exact ⟨by rw [HOK.out, EO.out, q1] <;> rfl, rfl⟩
        · obtain ⟨h1, h2, h3, h4, h5, h6, h7, h8, h9⟩ := h
          have EO := Lib.hid (ordB_else (hi + 1) os.length a b' (op := op) ⟨h1, h2, h3, h4, h5, h6, h7, h8, h9⟩)
          have n1 : (op == 1) = false := beq_eq_false_iff_ne.2 h1
          have n2 : (op == 2) = false := beq_eq_false_iff_ne.2 h2
          have n3 : (op == 3) = false := beq_eq_false_iff_ne.2 h3
          have n4 : (op == 4) = false := beq_eq_false_iff_ne.2 h4
          have n5 : (op == 5) = false := beq_eq_false_iff_ne.2 h5
          have n6 : (op == 6) = false := beq_eq_false_iff_ne.2 h6
          have n7 : (op == 7) = false := beq_eq_false_iff_ne.2 h7
          have n8 : (op == 0) = false := beq_eq_false_iff_ne.2 h8
          have n9 : (op == 8) = false := beq_eq_false_iff_ne.2 h9
          clear HOP h1 h2 h3 h4 h5 h6 h7 h8 h9
          go_wp2_with fail
          go_meet
          case rel => exact ⟨by rw [HOK.out, EO.out], rfl⟩
      case rest =>
        obtain ⟨rfl, rfl⟩ := hcut
        have HOK2 : Hid (ordB (hi + 1) os.length os[k] = ok) := by show _ = _; rw [← HO.out]; exact HOK.out.symm
        clear x0 x1 x2 HOK HO HOP HQA
        cases ok
        · have ha := Lib.hid (all_snoc_false (p := ordB (hi + 1) os.length) hlt HOK2.out)
          rw [ha.out, Bool.and_false] at E
          go_wp2_with fail
          go_ret
          exact ⟨by rw [E.out] <;> rfl, HB2.out⟩
        · have hst : Hid (∀ i (_ : i < k + 1) (h : i < os.length), ordB (hi + 1) os.length os[i] = true) := fun i hi' h' => by
            rcases Nat.lt_or_ge i k with h'' | h''
            · exact HV.out i h'' h'
            · have : i = k := by omega
              subst this; exact HOK2.out
          go_wp2_with fail
          go_roundw
          case rel => exact ⟨k + 1, by omega, by go_num, HB2.out, hst⟩
          case measure => simp [intOf]; omega
    · have hd : decide ((k : Int) < (os.length : Int)) = false := decide_eq_false (by omega)
      have hd2 : decide (k < os.length) = false := decide_eq_false hlt
      have ha : os.all (ordB (hi + 1) os.length) = true := all_of_get fun i hi' => HV.out i (by omega) hi'
      rw [ha, Bool.and_true] at E
      clear ha
      cases q1 : inB (os.length : Int) 1 20
      all_goals
        rw [q1] at E
        go_wp2_with (go_at_call 52; refine (callL1In _ _ _ _).mono ?_; rintro e w' ⟨rfl, rfl⟩)
        go_ret
        exact ⟨by rw [E.out] <;> rfl, HB.out⟩
end Go.Proofs.Ytiodpnhokjkjaaa
