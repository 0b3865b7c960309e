/- Logs: what is valid, for every input. -/
import Derived.Test.YtapkgncmjinedaaAum
import Derived.Deep.RegionHeld3
import Derived.Deep.DeepCutAuto
import Derived.Deep.QuietTactic
namespace Go.Proofs.Ytapkgncmjinedaa
open Go.RowKit Go.Sort

set_option maxRecDepth 100000 in
set_option maxHeartbeats 1600000 in
theorem callAuditValid (A : Option Addr) (c : Nat) (es : List Int) (key sum : Int) (w : World) (B : Nat) (hB : B ≤ w.heap.size) (hm : es.length ≤ 1048576) (hr : Rd eInt w B A es) :
    Calls Try.prog 37 #[.agg #[.int .i64 key, .slice A es.length c, .int .i64 sum]] w fun e w' => e = .returned (.bool (auditOk key es sum)) ∧ Below w.heap.size w w' := by
  have E : Hid (auditOk key es sum = ((decide (es.length ≤ 60) && inB key 0 1048572) && (sum == mixF key es))) := rfl
  have K := Lib.hid (heap_alloc_new w (.cells #[.int .i64 key, .slice A es.length c, .int .i64 sum] 37))
  have HB := Lib.hid (below1 w (.cells #[.int .i64 key, .slice A es.length c, .int .i64 sum] 37))
  have HC : Hid (inB key 0 1048572 = true → ∀ W, Below w.heap.size w W → Calls Try.prog 65 #[.int .i64 key, .slice A es.length c] W fun e w' => e = .returned (.int .i64 (mixF key es)) ∧ Below W.heap.size W w') := fun h W hW => callChain A c es key W B (Nat.le_trans hB hW.size) hm h (hr.below (hW.mono hB))
  clear hr
  obtain ⟨u, hu⟩ : ∃ u, u = w.alloc (.cells #[.int .i64 key, .slice A es.length c, .int .i64 sum] 37) := ⟨_, rfl⟩
  go_enter Try.func37, Try.ntmps37
  go_upto_region 1 with (fail)
  rw [← hu] at K HB ⊢
  clear hu
  obtain ⟨X, hX⟩ : ∃ X, X = w.heap.size := ⟨_, rfl⟩
  rw [← hX] at K ⊢
  have HX := Lib.hid hX
  clear hX
  obtain ⟨x0, x1, x2, _, _, _, x6⟩ := cell3 K.out
  by_cases hl : es.length ≤ 60
  · have hd : decide (es.length ≤ 60) = true := decide_eq_true hl
    have hdi : decide ((es.length : Int) ≤ 60) = true := decide_eq_true (by omega)
    rw [hd] at E
    cases hk : inB key 0 1048572
    · rw [hk] at E
      go_quiet ((go_at_call 69; exact quiet_left (by have := callIsKey key; rw [hk] at this; exact this _)))
      go_wp2
      go_ret
      exact ⟨by rw [E.out] <;> rfl, by rw [← HX.out]; exact below_drewN (by rw [HX.out]; exact HB.out) _⟩
    · have C := Lib.hid (HC.out hk)
      rw [hk] at E
      obtain ⟨r, hr⟩ : ∃ r, r = mixF key es := ⟨_, rfl⟩
      rw [← hr] at E C
      clear hr HC
      have IK : Hid (∀ W, Calls Try.prog 69 #[.int .i64 key] W fun e w' => e = .returned (.bool true) ∧ W = w') := fun W => by have := callIsKey key W; rw [hk] at this; exact this
      clear hk
      go_region_held3 (fun w' => w'.cell? ⟨X, 0, none⟩ = some (.int .i64 key) ∧ w'.cell? ⟨X, 1, none⟩ = some (.slice A es.length c) ∧ w'.cell? ⟨X, 2, none⟩ = some (.int .i64 sum)) (first | exact ⟨x0, x1, x2⟩ | (refine ⟨?_, ?_, ?_⟩ <;> assumption) | assumption | go_keep)
        (first
          | (go_at_call 69; (with_reducible refine (IK.out _).mono ?_); rintro e w5 ⟨rfl, rfl⟩)
          | (go_at_call 65; (with_reducible refine (C.out u.drew HB.out.drew).mono ?_); rintro e w5 ⟨rfl, hb5⟩; have HB5 : Hid (Below u.heap.size u w5) := ⟨hb5.os, hb5.tape, hb5.output, hb5.size, hb5.block⟩; clear hb5; obtain ⟨xa0, xa1, xa2, _, _, _, _⟩ := cell3 (blkc K.out HB5.out)))
      go_wp2
      go_ret
      exact ⟨by rw [E.out] <;> rfl, bel_trans HB.out HB5.out⟩
  · have hd : decide (es.length ≤ 60) = false := decide_eq_false hl
    have hdi : decide ((es.length : Int) ≤ 60) = false := decide_eq_false (by omega)
    rw [hd] at E
    go_quiet (fail)
    go_wp2
    go_ret
    exact ⟨by rw [E.out] <;> rfl, by rw [← HX.out]; exact below_drewN (by rw [HX.out]; exact HB.out) _⟩
set_option maxRecDepth 100000 in
set_option maxHeartbeats 1600000 in
theorem callSAuditValid (A : Option Addr) (c : Nat) (es : List Int) (key sum : Int) (w : World) (B : Nat) (hB : B ≤ w.heap.size) (hm : es.length ≤ 1048576) (hr : Rd eInt w B A es) :
    Calls Try.prog 66 #[.agg #[.int .i64 key, .slice A es.length c, .int .i64 sum]] w fun e w' => e = .returned (.bool (auditOk key es sum)) ∧ Below w.heap.size w w' := by
  have E : Hid (auditOk key es sum = ((decide (es.length ≤ 60) && inB key 0 1048572) && (sum == mixF key es))) := rfl
  have K := Lib.hid (heap_alloc_new w (.cells #[.int .i64 key, .slice A es.length c, .int .i64 sum] 37))
  have HB := Lib.hid (below1 w (.cells #[.int .i64 key, .slice A es.length c, .int .i64 sum] 37))
  have HC : Hid (inB key 0 1048572 = true → es.length ≤ 1000 → ∀ W, Below w.heap.size w W → Calls Try.prog 68 #[.int .i64 key, .slice A es.length c] W fun e w' => e = .returned (.int .i64 (mixF key es)) ∧ Below W.heap.size W w') := fun h h60 W hW => callL12Sum A c es key W B (Nat.le_trans hB hW.size) h60 h (hr.below (hW.mono hB))
  clear hr
  obtain ⟨u, hu⟩ : ∃ u, u = w.alloc (.cells #[.int .i64 key, .slice A es.length c, .int .i64 sum] 37) := ⟨_, rfl⟩
  go_enter Try.func66, Try.ntmps66
  go_upto_region 1 with (fail)
  rw [← hu] at K HB ⊢
  clear hu
  obtain ⟨X, hX⟩ : ∃ X, X = w.heap.size := ⟨_, rfl⟩
  rw [← hX] at K ⊢
  have HX := Lib.hid hX
  clear hX
  obtain ⟨x0, x1, x2, _, _, _, x6⟩ := cell3 K.out
  by_cases hl : es.length ≤ 60
  · have hd : decide (es.length ≤ 60) = true := decide_eq_true hl
    have hdi : decide ((es.length : Int) ≤ 60) = true := decide_eq_true (by omega)
    rw [hd] at E
    cases hk : inB key 0 1048572
    · rw [hk] at E
      go_quiet ((go_at_call 67; exact quiet_left (by have := callL1In key 0 1048572; rw [hk] at this; exact this _)))
      go_wp2
      go_ret
      exact ⟨by rw [E.out] <;> rfl, by rw [← HX.out]; exact below_drewN (by rw [HX.out]; exact HB.out) _⟩
    · have C := Lib.hid (HC.out hk (by omega))
      rw [hk] at E
      obtain ⟨r, hr⟩ : ∃ r, r = mixF key es := ⟨_, rfl⟩
      rw [← hr] at E C
      clear hr HC
      have IK : Hid (∀ W, Calls Try.prog 67 #[.int .i64 key, .int .i64 0, .int .i64 1048572] W fun e w' => e = .returned (.bool true) ∧ W = w') := fun W => by have := callL1In key 0 1048572 W; rw [hk] at this; exact this
      clear hk
      go_region_held3 (fun w' => w'.cell? ⟨X, 0, none⟩ = some (.int .i64 key) ∧ w'.cell? ⟨X, 1, none⟩ = some (.slice A es.length c) ∧ w'.cell? ⟨X, 2, none⟩ = some (.int .i64 sum)) (first | exact ⟨x0, x1, x2⟩ | (refine ⟨?_, ?_, ?_⟩ <;> assumption) | assumption | go_keep)
        (first
          | (go_at_call 67; (with_reducible refine (IK.out _).mono ?_); rintro e w5 ⟨rfl, rfl⟩)
          | (go_at_call 68; (with_reducible refine (C.out u.drew HB.out.drew).mono ?_); rintro e w5 ⟨rfl, hb5⟩; have HB5 : Hid (Below u.heap.size u w5) := ⟨hb5.os, hb5.tape, hb5.output, hb5.size, hb5.block⟩; clear hb5; obtain ⟨xa0, xa1, xa2, _, _, _, _⟩ := cell3 (blkc K.out HB5.out)))
      go_wp2
      go_ret
      exact ⟨by rw [E.out] <;> rfl, bel_trans HB.out HB5.out⟩
  · have hd : decide (es.length ≤ 60) = false := decide_eq_false hl
    have hdi : decide ((es.length : Int) ≤ 60) = false := decide_eq_false (by omega)
    rw [hd] at E
    go_quiet (fail)
    go_wp2
    go_ret
    exact ⟨by rw [E.out] <;> rfl, by rw [← HX.out]; exact below_drewN (by rw [HX.out]; exact HB.out) _⟩
end Go.Proofs.Ytapkgncmjinedaa
