/- The functions of caches of the program, for every input. -/
import Derived.Test.YtlkdngjpbohgaaaWin
import Derived.Test.YtlkdngjpbohgaaaRep
import Derived.Test.YtlkdngjpbohgaaaCap
import Derived.Test.YtlkdngjpbohgaaaBox
import Derived.Deep.QuietTactic
namespace Go.Proofs.Ytlkdngjpbohgaaa
open Go.RowKit Go.Sort

theorem callLined (n : Int) (w : World) : Calls Try.prog 37 #[.int .i64 n] w fun e w' => e = .returned (.bool (lnB n)) ∧ w = w' := by
  have E : Hid (lnB n = (n == 1 || (n == 2 || (n == 4 || (n == 8 || n == 16))))) := rfl
  cases q1 : (n == 1)
  · cases q2 : (n == 2)
    · cases q3 : (n == 4)
      · cases q4 : (n == 8)
        · cases q5 : (n == 16)
          all_goals
            go_enter Try.func37, Try.ntmps37
            go_wp2
            go_ret
            exact ⟨by rw [E.out, q1, q2, q3, q4, q5] <;> rfl, rfl⟩
        · go_enter Try.func37, Try.ntmps37
          go_wp2
          go_ret
          exact ⟨by rw [E.out, q1, q2, q3, q4] <;> rfl, rfl⟩
      · go_enter Try.func37, Try.ntmps37
        go_wp2
        go_ret
        exact ⟨by rw [E.out, q1, q2, q3] <;> rfl, rfl⟩
    · go_enter Try.func37, Try.ntmps37
      go_wp2
      go_ret
      exact ⟨by rw [E.out, q1, q2] <;> rfl, rfl⟩
  · go_enter Try.func37, Try.ntmps37
    go_wp2
    go_ret
    exact ⟨by rw [E.out, q1] <;> rfl, rfl⟩

set_option maxRecDepth 100000 in
set_option maxHeartbeats 1600000 in
theorem callCacheValid (A : Option Addr) (c : Nat) (h : List Int) (w : World) (B : Nat) (hB : B ≤ w.heap.size) (hm : h.length ≤ 1048576) (hr : Rd eInt w B A h) :
    Calls Try.prog 25 #[.agg #[.slice A h.length c]] w fun e w' => e = .returned (.bool (cacheOk h)) ∧ Below w.heap.size w w' := by
  have HK0 : Hid ((w.alloc (.cells #[.slice A h.length c] 25)).heap[w.heap.size]? = some (.cells #[.slice A h.length c] 25 (0, 0))) := heap_alloc_new w _
  have HR := Lib.hid (hr.below ((below1 w (.cells #[.slice A h.length c] 25)).mono hB))
  clear hr
  go_enter Try.func25, Try.ntmps25
  go_wp2
  go_loopw [8] (fun i wr => ∃ k : Nat, k ≤ h.length ∧ i = .int .i64 k ∧ wr = w.alloc (.cells #[.slice A h.length c] 25) ∧ Hid (∀ i (hi : i < h.length), i < k → blkOk h.length i h[i] = true)) (fun i _ => h.length - (intOf i).toNat)
  case atStart => exact ⟨0, by omega, rfl, rfl, fun i _ hi => by omega⟩
  case round =>
    obtain ⟨k, hk, rfl, rfl, hno⟩ := hrel
    by_cases hlt : k < h.length
    · obtain ⟨b, off, rfl, hbB, h1⟩ := HR.out.at1 rfl hlt rfl
      have hl0 : (1 : Int) ≤ (h.length : Int) := by omega
      have EB := Lib.hid (blkOk_iff (n := h.length) (i := k) (b := h[k]))
      have bad : Hid (blkOk h.length k h[k] = false → cacheOk h = false) := fun hb => by
        cases hc : cacheOk h
        · rfl
        · have := (cacheOk_iff.1 hc).2 k hlt; rw [hb] at this; cases this
      have good : Hid (blkOk h.length k h[k] = true → ∀ i (hi : i < h.length), i < k + 1 → blkOk h.length i h[i] = true) := fun hb i hi hik => by
        rcases Nat.lt_or_ge i k with h' | h'
        · exact hno.out i hi h'
        · have : i = k := by omega
          subst this; exact hb
      by_cases e1 : h[k] = -1
      · have d1 : (h[k] != -1) = false := by rw [e1]; rfl
        have G := Lib.hid (good.out (EB.out.2 (.inl e1)))
        clear e1
        go_wp2
        go_roundw
        case rel => exact ⟨k + 1, by omega, by go_num, (by first | trivial | rfl), G⟩
        case measure => simp [intOf]; omega
      · have d1 : (h[k] != -1) = true := by rw [bne_iff_ne]; exact e1
        cases q : inB h[k] 0 255
        · have hb0 : Hid (cacheOk h = false) := bad.out (by
            cases hb : blkOk h.length k h[k]
            · rfl
            · rcases EB.out.1 hb with h' | h'
              · exact absurd h' e1
              · rw [inB_iff.2 ⟨h'.1, h'.2.1⟩] at q; cases q)
          clear e1
          go_wp2_with (go_at_call 61; refine (callIn _ _ _ _).mono ?_; rintro e w' ⟨rfl, rfl⟩)
          go_ret
          exact ⟨by rw [hb0.out] <;> rfl, below1 _ _⟩
        · obtain ⟨b0, b1⟩ := inB_iff.1 q
          by_cases e2 : h[k] % (h.length : Int) = (k : Int)
          · have d2 : (h[k] % (h.length : Int) != (k : Int)) = false := by rw [e2]; simp
            have G := Lib.hid (good.out (EB.out.2 (.inr ⟨b0, b1, e2⟩)))
            clear e1 e2
            go_wp2_with (go_at_call 61; refine (callIn _ _ _ _).mono ?_; rintro e w' ⟨rfl, rfl⟩)
            go_roundw
            case rel => exact ⟨k + 1, by omega, by go_num, (by first | trivial | rfl), G⟩
            case measure => simp [intOf]; omega
          · have d2 : (h[k] % (h.length : Int) != (k : Int)) = true := by rw [bne_iff_ne]; exact e2
            have hb0 : Hid (cacheOk h = false) := bad.out (by
              cases hb : blkOk h.length k h[k]
              · rfl
              · rcases EB.out.1 hb with h' | h'
                · exact absurd h' e1
                · exact absurd h'.2.2 e2)
            clear e1 e2
            go_wp2_with (go_at_call 61; refine (callIn _ _ _ _).mono ?_; rintro e w' ⟨rfl, rfl⟩)
            go_ret
            exact ⟨by rw [hb0.out] <;> rfl, below1 _ _⟩
    · have hke : k = h.length := by omega
      subst hke
      have EC : Hid (cacheOk h = lnB h.length) := by
        show _ = _
        cases hl : lnB (h.length : Int)
        · cases hc : cacheOk h
          · rfl
          · rw [(cacheOk_iff.1 hc).1] at hl; cases hl
        · exact cacheOk_iff.2 ⟨hl, fun i hi => hno.out i hi hi⟩
      go_wp2_with (go_at_call 37; refine (callLined _ _).mono ?_; rintro e w' ⟨rfl, rfl⟩)
      go_ret
      exact ⟨by rw [EC.out] <;> rfl, below1 _ _⟩

set_option maxRecDepth 100000 in
set_option maxHeartbeats 1600000 in
theorem callSCacheValid (A : Option Addr) (c : Nat) (h : List Int) (w : World) (B : Nat) (hB : B ≤ w.heap.size) (hm : h.length ≤ 1048576) (hr : Rd eInt w B A h) :
    Calls Try.prog 30 #[.agg #[.slice A h.length c]] w fun e w' => e = .returned (.bool (cacheOk h)) ∧ Below w.heap.size w w' := by
  have HR := Lib.hid (hr.below ((below1 w (.cells #[.slice A h.length c] 25)).mono hB))
  clear hr
  cases q0 : inB (h.length : Int) 1 16
  · have hb0 : Hid (cacheOk h = false) := by
      show _ = _
      cases hc : cacheOk h
      · rfl
      · have := lnB_bd (cacheOk_iff.1 hc).1
        rw [inB_iff.2 this] at q0; cases q0
    go_enter Try.func30, Try.ntmps30
    go_wp2_with (go_at_call 53; refine (callL1In _ _ _ _).mono ?_; rintro e w' ⟨rfl, rfl⟩)
    go_ret
    exact ⟨by rw [hb0.out] <;> rfl, below1 _ _⟩
  · obtain ⟨n1, n2⟩ := inB_iff.1 q0
    have hand := ln_and h.length (by omega) (by omega)
    cases ql : lnB (h.length : Int)
    · rw [ql] at hand
      have hb0 : Hid (cacheOk h = false) := by
        show _ = _
        cases hc : cacheOk h
        · rfl
        · rw [(cacheOk_iff.1 hc).1] at ql; cases ql
      go_enter Try.func30, Try.ntmps30
      go_wp2_with (go_at_call 53; refine (callL1In _ _ _ _).mono ?_; rintro e w' ⟨rfl, rfl⟩)
      go_ret
      exact ⟨by rw [hb0.out] <;> rfl, below1 _ _⟩
    · rw [ql] at hand
      have HQL := Lib.hid ql
      go_enter Try.func30, Try.ntmps30
      go_wp2_with (go_at_call 53; refine (callL1In _ _ _ _).mono ?_; rintro e w' ⟨rfl, rfl⟩)
      go_loopw [4] (fun i wr => ∃ k : Nat, k ≤ h.length ∧ i = .int .i64 k ∧ wr = w.alloc (.cells #[.slice A h.length c] 25) ∧ Hid (∀ i (hi : i < h.length), i < k → blkOk h.length i h[i] = true)) (fun i _ => h.length - (intOf i).toNat)
      case atStart => exact ⟨0, by omega, rfl, rfl, fun i _ hi => by omega⟩
      case round =>
        obtain ⟨k, hk, rfl, rfl, hno⟩ := hrel
        by_cases hlt : k < h.length
        · obtain ⟨b, off, rfl, hbB, h1⟩ := HR.out.at1 rfl hlt rfl
          have EB := Lib.hid (blkOk_iff (n := h.length) (i := k) (b := h[k]))
          have bad : Hid (blkOk h.length k h[k] = false → cacheOk h = false) := fun hb => by
            cases hc : cacheOk h
            · rfl
            · have := (cacheOk_iff.1 hc).2 k hlt; rw [hb] at this; cases this
          have good : Hid (blkOk h.length k h[k] = true → ∀ i (hi : i < h.length), i < k + 1 → blkOk h.length i h[i] = true) := fun hb i hi hik => by
            rcases Nat.lt_or_ge i k with h' | h'
            · exact hno.out i hi h'
            · have : i = k := by omega
              subst this; exact hb
          cases q : inB h[k] (-1) 255
          · have hb0 : Hid (cacheOk h = false) := bad.out (by
              cases hb : blkOk h.length k h[k]
              · rfl
              · have : inB h[k] (-1) 255 = true := inB_iff.2 (by rcases EB.out.1 hb with h' | h' <;> omega)
                rw [this] at q; cases q)
            go_wp2_with (go_at_call 53; refine (callL1In _ _ _ _).mono ?_; rintro e w' ⟨rfl, rfl⟩)
            go_ret
            exact ⟨by rw [hb0.out] <;> rfl, below1 _ _⟩
          · obtain ⟨b0, b1⟩ := inB_iff.1 q
            by_cases e1 : h[k] = -1
            · have d1 : decide (h[k] ≥ 0) = false := decide_eq_false (by omega)
              have G := Lib.hid (good.out (EB.out.2 (.inl e1)))
              clear e1
              go_wp2_with (go_at_call 53; refine (callL1In _ _ _ _).mono ?_; rintro e w' ⟨rfl, rfl⟩)
              go_roundw
              case rel => exact ⟨k + 1, by omega, by go_num, (by first | trivial | rfl), G⟩
              case measure => simp [intOf]; omega
            · have d1 : decide (h[k] ≥ 0) = true := decide_eq_true (by omega)
              have d0 : 0 ≤ h[k] := by omega
              by_cases e2 : h[k] % (h.length : Int) = (k : Int)
              · have d2 : (h[k] % (h.length : Int) != (k : Int)) = false := by rw [e2]; simp
                have G := Lib.hid (good.out (EB.out.2 (.inr ⟨d0, b1, e2⟩)))
                clear e1 e2
                go_wp2_with (go_at_call 53; refine (callL1In _ _ _ _).mono ?_; rintro e w' ⟨rfl, rfl⟩)
                go_roundw
                case rel => exact ⟨k + 1, by omega, by go_num, (by first | trivial | rfl), G⟩
                case measure => simp [intOf]; omega
              · have d2 : (h[k] % (h.length : Int) != (k : Int)) = true := by rw [bne_iff_ne]; exact e2
                have hb0 : Hid (cacheOk h = false) := bad.out (by
                  cases hb : blkOk h.length k h[k]
                  · rfl
                  · rcases EB.out.1 hb with h' | h'
                    · exact absurd h' e1
                    · exact absurd h'.2.2 e2)
                clear e1 e2
                go_wp2_with (go_at_call 53; refine (callL1In _ _ _ _).mono ?_; rintro e w' ⟨rfl, rfl⟩)
                go_ret
                exact ⟨by rw [hb0.out] <;> rfl, below1 _ _⟩
        · have hke : k = h.length := by omega
          subst hke
          have hd : decide ((h.length : Int) < h.length) = false := by simp
          have EC : Hid (cacheOk h = true) := cacheOk_iff.2 ⟨HQL.out, fun i hi => hno.out i hi hi⟩
          go_wp2
          go_ret
          exact ⟨by rw [EC.out] <;> rfl, below1 _ _⟩

set_option maxRecDepth 100000 in
set_option maxHeartbeats 1600000 in
theorem callTouch (g c : Nat) (h : List Int) (p : Int) (w : World) (base : Nat) (hbase : base ≤ w.heap.size) (hl : 1 ≤ h.length) (hl2 : h.length ≤ 16) (hp0 : 0 ≤ p) (hp1 : p ≤ 4095) (hown : Own eInt 3 w base (.slice (some ⟨g, 0, none⟩) h.length c) h) :
    Calls Try.prog 59 #[.agg #[.slice (some ⟨g, 0, none⟩) h.length c], .int .i64 p] w fun e w' => e = .returned (.int .i64 (tTime h p)) ∧ Own eInt 3 w' base (.slice (some ⟨g, 0, none⟩) (tNew h p).length c) (tNew h p) ∧ w.grownBy w' (some g) := by
  have hne : h ≠ [] := by intro e; simp [e] at hl
  have hlt := tLine_lt (h := h) (by omega) p
  have ET : Hid (tTime h p = if tHit h p then 1 else 8) := rfl
  have EN : Hid (tNew h p = if tHit h p then h else h.set (tLine h p) (p / 16)) := rfl
  have EH := Lib.hid (tHit_eq (h := h) (by omega) p)
  have HOW := Lib.hid hown
  have HO := Lib.hid (hown.alloc (.cells #[.slice (some ⟨g, 0, none⟩) h.length c] 25))
  obtain ⟨hbg, cur, hblk⟩ := hown.blk hne
  have hgw : g < w.heap.size := (Array.getElem?_eq_some_iff.1 hblk).1
  clear hown hblk
  obtain ⟨ln, hln⟩ : ∃ ln, ln = tLine h p := ⟨_, rfl⟩
  have hln2 : p / 16 % (h.length : Int) = (ln : Int) := by
    rw [hln]; unfold tLine
    have := Int.emod_nonneg (p / 16) (show (h.length : Int) ≠ 0 by omega)
    omega
  have hlt2 : ln < h.length := by rw [hln]; exact hlt
  have HLN := Lib.hid hln
  clear hln hlt
  obtain ⟨bb, oo, hAA, hbB, h1⟩ := HO.out.rd.at1 rfl hlt2 rfl
  simp only [Option.some.injEq, Addr.mk.injEq, and_true] at hAA
  obtain ⟨rfl, rfl⟩ := hAA
  simp only [Nat.zero_add] at h1
  have hfz := HO.out.frozen (o := ln) hne
  obtain ⟨x, hx⟩ : ∃ x, x = h[ln] := ⟨_, rfl⟩
  have EX : Hid (tHit h p = (x == p / 16)) := by
    show _ = _
    rw [EH.out, hx]
    simp only [HLN.out]
  rw [← hx] at h1
  have HX := Lib.hid hx
  clear hx
  obtain ⟨bk, hbk⟩ : ∃ bk, bk = p / 16 := ⟨_, rfl⟩
  rw [← hbk] at hln2 EX EN
  have hbk0 : 0 ≤ bk ∧ bk ≤ 255 := by omega
  have hbk2 : p / 16 = bk := hbk.symm
  clear hbk
  cases q : (x == bk)
  · rw [q] at EX
    have HS := Lib.hid ((HOW.out.set (E := eInt) (i := ln) (j := 0) (x := h[ln]) (y := bk) (u := .int .i64 bk) (List.getElem?_eq_getElem hlt2) (by decide) rfl).alloc (.cells #[.slice (some ⟨g, 0, none⟩) h.length c] 25))
    go_enter Try.func59, Try.ntmps59
    go_wp2
    go_ret
    refine ⟨by rw [ET.out, EX.out] <;> rfl, ?_, ?_⟩
    · rw [EN.out, EX.out, ← HLN.out]
      have := HS.out
      simpa using this
    · exact gtrans (gset (w := w) ln (.int .i64 bk)) (World.grownBy_alloc _ _ _)
  · rw [q] at EX
    go_enter Try.func59, Try.ntmps59
    go_wp2
    go_ret
    exact ⟨by rw [ET.out, EX.out] <;> rfl, by rw [EN.out, EX.out]; exact HO.out, World.grownBy_alloc _ _ _⟩
end Go.Proofs.Ytlkdngjpbohgaaa
