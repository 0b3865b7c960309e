/- The functions of health of the program and of the reference, for every input. -/
import Derived.Test.YtlkdngjpbohgaaaWin
import Derived.Test.YtlkdngjpbohgaaaIdx
import Derived.Test.YtlkdngjpbohgaaaBox
import Derived.Test.YtlkdngjpbohgaaaHea
import Derived.Deep.QuietTactic
import Derived.Deep.RegionHeld3
namespace Go.Proofs.Ytlkdngjpbohgaaa
open Go.RowKit Go.Sort

theorem callHealthValid (h : Hlt) (w : World) : Calls Try.prog 47 #[h.val] w fun e w' => e = .returned (.bool (hOk h)) ∧ Below w.heap.size w w' := by
  obtain ⟨fz, n⟩ := h
  have E : Hid (hOk ⟨fz, n⟩ = (inB n 0 3 && (fz || decide (n < 3)))) := rfl
  cases q : inB n 0 3
  · go_enter Try.func47, Try.ntmps47
    go_wp2_with (go_at_call 61; refine (callIn _ _ _ _).mono ?_; rintro e w' ⟨rfl, rfl⟩)
    go_ret
    exact ⟨by rw [E.out, q] <;> rfl, below1 _ _⟩
  · cases fz
    all_goals
      go_enter Try.func47, Try.ntmps47
      go_wp2_with (go_at_call 61; refine (callIn _ _ _ _).mono ?_; rintro e w' ⟨rfl, rfl⟩)
      go_ret
      exact ⟨by rw [E.out, q] <;> simp, below1 _ _⟩
theorem callSHealthValid (h : Hlt) (w : World) : Calls Try.prog 20 #[h.val] w fun e w' => e = .returned (.bool (hOk h)) ∧ Below w.heap.size w w' := by
  obtain ⟨fz, n⟩ := h
  have E : Hid (hOk ⟨fz, n⟩ = (inB n 0 3 && (fz || decide (n < 3)))) := rfl
  cases q : inB n 0 3
  · go_enter Try.func20, Try.ntmps20
    go_wp2_with (go_at_call 53; refine (callL1In _ _ _ _).mono ?_; rintro e w' ⟨rfl, rfl⟩)
    go_ret
    exact ⟨by rw [E.out, q] <;> rfl, below1 _ _⟩
  · by_cases d : n < 3
    · have dd : decide (n < 3) = true := decide_eq_true d
      go_enter Try.func20, Try.ntmps20
      go_wp2_with (go_at_call 53; refine (callL1In _ _ _ _).mono ?_; rintro e w' ⟨rfl, rfl⟩)
      go_ret
      exact ⟨by rw [E.out, q, dd] <;> simp, below1 _ _⟩
    · have dd : decide (n < 3) = false := decide_eq_false d
      go_enter Try.func20, Try.ntmps20
      go_wp2_with (go_at_call 53; refine (callL1In _ _ _ _).mono ?_; rintro e w' ⟨rfl, rfl⟩)
      go_ret
      exact ⟨by rw [E.out, q, dd] <;> simp, below1 _ _⟩

theorem callActBad (n : Int) (w : World) : Calls Try.prog 75 #[.int .i64 n] w fun e w' => e = .returned (.bool (!actOk n)) ∧ Below w.heap.size w w' := by
  have E : Hid (actOk n = inB n 0 2) := rfl
  go_enter Try.func75, Try.ntmps75
  go_wp2_with (go_at_call 61; refine (callIn _ _ _ _).mono ?_; rintro e w' ⟨rfl, rfl⟩)
  go_ret
  exact ⟨by rw [E.out] <;> rfl, Below.refl _ _⟩
theorem egActBad : ∀ (args : Array Value) (w : World), (callFunc 75 args).run Try.prog w = .ok (.enter 75 args) w := enters_fn Try.func75 (by kernel_rfl) rfl
theorem callHealthTable (A : Option Addr) (c : Nat) (t : List Int) (w : World) (B : Nat) (hB : B ≤ w.heap.size) (hm : t.length ≤ 1048576) (hr : Rd eInt w B A t) :
    Calls Try.prog 48 #[.slice A t.length c] w fun e w' => e = .returned (.bool (tabOk t)) ∧ Below w.heap.size w w' := by
  have hmf := run_makeFunc Try.prog
  have HC := Lib.hid (callContainsInt A c t 75 #[] (fun x => !actOk x) w B hB (by omega) hr egActBad (fun x _ w' _ => callActBad x w'))
  have E : Hid (tabOk t = (decide (t.length = 3) && !t.any fun x => !actOk x)) := by rw [not_any_not]; rfl
  clear hr
  generalize (t.any fun x => !actOk x) = q at *
  by_cases hl : t.length = 3
  · have hq : ((t.length : Int) == 3) = true := by rw [hl]; rfl
    have HL := Lib.hid hl
    clear hl
    go_enter Try.func48, Try.ntmps48
    go_wp2_with (go_at_call 49; refine HC.out.mono ?_; rintro e w1 ⟨rfl, hb1⟩)
    go_ret
    exact ⟨by rw [E.out]; simp [HL.out], hb1⟩
  · have hq : ((t.length : Int) == 3) = false := by rw [beq_eq_false_iff_ne]; omega
    go_enter Try.func48, Try.ntmps48
    go_wp2_with (go_at_call 49; refine HC.out.mono ?_; rintro e w1 ⟨rfl, hb1⟩)
    go_ret
    exact ⟨by rw [E.out]; simp [hl], Below.refl _ _⟩
theorem callSHealthTable (A : Option Addr) (c : Nat) (t : List Int) (w : World) (B : Nat) (hB : B ≤ w.heap.size) (hm : t.length ≤ 1048576) (hr : Rd eInt w B A t) :
    Calls Try.prog 21 #[.slice A t.length c] w fun e w' => e = .returned (.bool (tabOk t)) ∧ Below w.heap.size w w' := by
  have E : Hid (tabOk t = (decide (t.length = 3) && t.all actOk)) := rfl
  have HR := Lib.hid hr
  clear hr
  go_enter Try.func21, Try.ntmps21
  go_wp2
  go_loopw [3] (fun i wr => ∃ k : Nat, k ≤ t.length ∧ i = .int .i64 k ∧ Below w.heap.size w wr ∧ Hid (∀ i (_ : i < k) (h : i < t.length), actOk t[i] = true)) (fun i _ => t.length - (intOf i).toNat)
  case atStart => exact ⟨0, by omega, rfl, Below.refl _ _, fun i hi => by omega⟩
  case round =>
    obtain ⟨k, hk, rfl, hbl, hno⟩ := hrel
    have HB := Lib.hid hbl
    clear hbl
    by_cases hlt : k < t.length
    · obtain ⟨b, off, rfl, hbB, h1⟩ := (HR.out.below (HB.out.mono hB)).at1 rfl hlt rfl
      have ES : Hid (actOk t[k] = inB t[k] 0 2) := rfl
      cases q1 : inB t[k] 0 2
      · rw [q1] at ES
        go_wp2_with (go_at_call 53; refine (callL1In _ _ _ _).mono ?_; rintro e w' ⟨rfl, rfl⟩)
        go_ret
        exact ⟨by rw [E.out, all_snoc_false hlt ES.out, Bool.and_false] <;> rfl, HB.out⟩
      · rw [q1] at ES
        have hst : Hid (∀ i (_ : i < k + 1) (h : i < t.length), actOk t[i] = true) := fun i hi h => by
          rcases Nat.lt_or_ge i k with h' | h'
          · exact hno.out i h' h
          · have : i = k := by omega
            subst this; exact ES.out
        go_wp2_with (go_at_call 53; refine (callL1In _ _ _ _).mono ?_; rintro e w' ⟨rfl, rfl⟩)
        go_roundw
        case rel => exact ⟨k + 1, by omega, by go_num, HB.out, hst⟩
        case measure => simp [intOf]; omega
    · have hke : k = t.length := by omega
      subst hke
      have hd : decide ((t.length : Int) < t.length) = false := by simp
      have EA : Hid (tabOk t = decide (t.length = 3)) := by
        show _ = _
        rw [E.out, all_of_get fun i h => hno.out i h h, Bool.and_true]
      by_cases hl : t.length = 3
      · have hq : ((t.length : Int) == 3) = true := by rw [hl]; rfl
        have HL := Lib.hid hl
        clear hl
        go_wp2
        go_ret
        exact ⟨by rw [EA.out, decide_eq_true HL.out] <;> rfl, HB.out⟩
      · have hq : ((t.length : Int) == 3) = false := by rw [beq_eq_false_iff_ne]; omega
        go_wp2
        go_ret
        exact ⟨by rw [EA.out, decide_eq_false hl] <;> rfl, HB.out⟩

set_option maxRecDepth 100000 in
set_option maxHeartbeats 1600000 in
theorem callAfter (A : Option Addr) (c : Nat) (h : Hlt) (t : List Int) (f : Int) (w : World) (B : Nat) (hB : B ≤ w.heap.size) (hh : hOk h = true) (ht : tabOk t = true) (hf : fltOk f = true) (hr : Rd eInt w B A t) :
    Calls Try.prog 52 #[h.val, .slice A t.length c, .int .i64 f] w fun e w' => e = .returned (.tuple #[(hAfter h t f).1.val, .int .i64 (hAfter h t f).2]) ∧ Below w.heap.size w w' := by
  obtain ⟨f0, f3⟩ := inB_iff.1 (show inB f 0 3 = true from hf)
  obtain ⟨n0, n3, nf⟩ := hOk_iff.1 hh
  have HL := Lib.hid (tabOk_iff.1 ht).1
  have hbd := hAct_bd ht f
  have htl : t.length = 3 := (tabOk_iff.1 ht).1
  obtain ⟨fz, n⟩ := h
  simp only at n0 n3 nf
  have HR := Lib.hid (hr.below ((below2 w (.cells #[.bool fz, .int .i64 n] 32) (.cells #[.bool false, .int .i64 0] 32)).mono hB))
  clear hr hh ht hf
  by_cases e0 : f = 0
  · have E : Hid (hAfter ⟨fz, n⟩ t f = (⟨fz, n⟩, 0)) := by show _ = _; unfold hAfter; rw [if_pos (.inl e0)]
    subst e0
    clear hbd htl nf
    go_enter Try.func52, Try.ntmps52
    go_wp2
    refine bodyPost_ret (v := .tuple #[.agg #[.bool fz, .int .i64 n], .int .i64 0]) (by simp [results, Try.results52, go_sem]) rfl ⟨by rw [E.out], below2 _ _ _⟩
  · have d0 : (f == 0) = false := by rw [beq_eq_false_iff_ne]; exact e0
    cases fz
    · obtain ⟨m, hm⟩ : ∃ m : Nat, f - 1 = (m : Int) := ⟨(f - 1).toNat, by omega⟩
      have hm3 : m < t.length := by omega
      obtain ⟨b, off, rfl, hbB, h1⟩ := HR.out.at1 rfl hm3 rfl
      have ea : hAct t f = t[m] := by unfold hAct; rw [hm, Int.toNat_natCast, List.getD_eq_getElem?_getD, List.getElem?_eq_getElem hm3]; rfl
      have hn2 : n < 3 := by rcases nf with nf | nf; cases nf; exact nf
      have EE : Hid (hAfter ⟨false, n⟩ t f = if t[m] = 1 then (if n + 1 = 3 then (⟨true, 3⟩, 2) else (⟨false, n + 1⟩, 1)) else if t[m] = 2 then (⟨true, n⟩, 2) else (⟨false, n⟩, 0)) := by
        show _ = _; unfold hAfter; rw [if_neg (by simp [e0]), ea]
      rw [ea] at hbd
      obtain ⟨x, hx⟩ : ∃ x, x = t[m] := ⟨_, rfl⟩
      rw [← hx] at h1 EE hbd
      have hi0 : (0 : Int) ≤ (m : Int) := by omega
      have hi1 : (m : Int) < (t.length : Int) := by omega
      have hx3 : x = 0 ∨ x = 1 ∨ x = 2 := by omega
      clear hx ea htl nf e0 hbd n3
      rcases hx3 with rfl | rfl | rfl
      · go_enter Try.func52, Try.ntmps52
        go_wp2
        refine bodyPost_ret (v := .tuple #[.agg #[.bool false, .int .i64 n], .int .i64 0]) (by simp [results, Try.results52, go_sem]) rfl ⟨by rw [EE.out] <;> rfl, below2 _ _ _⟩
      · by_cases e3 : n + 1 = 3
        · obtain rfl : n = 2 := by omega
          clear e3
          go_enter Try.func52, Try.ntmps52
          go_wp2
          refine bodyPost_ret (v := .tuple #[.agg #[.bool true, .int .i64 3], .int .i64 2]) (by simp [results, Try.results52, go_sem]) rfl ⟨by rw [EE.out] <;> rfl, below2 _ _ _⟩
        · have d3 : (n + 1 == 3) = false := by rw [beq_eq_false_iff_ne]; exact e3
          go_enter Try.func52, Try.ntmps52
          go_wp2
          refine bodyPost_ret (v := .tuple #[.agg #[.bool false, .int .i64 (n + 1)], .int .i64 1]) (by simp [results, Try.results52, go_sem]) rfl ⟨by rw [EE.out, if_pos True.intro, if_neg e3] <;> rfl, below2 _ _ _⟩
      · go_enter Try.func52, Try.ntmps52
        go_wp2
        refine bodyPost_ret (v := .tuple #[.agg #[.bool true, .int .i64 n], .int .i64 2]) (by simp [results, Try.results52, go_sem]) rfl ⟨by rw [EE.out] <;> rfl, below2 _ _ _⟩
    · have E : Hid (hAfter ⟨true, n⟩ t f = (⟨true, n⟩, 0)) := by show _ = _; unfold hAfter; rw [if_pos (.inr rfl)]
      clear hbd htl nf
      go_enter Try.func52, Try.ntmps52
      go_wp2
      refine bodyPost_ret (v := .tuple #[.agg #[.bool true, .int .i64 n], .int .i64 0]) (by simp [results, Try.results52, go_sem]) rfl ⟨by rw [E.out], below2 _ _ _⟩

end Go.Proofs.Ytlkdngjpbohgaaa
