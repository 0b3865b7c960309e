/- The functions of links of the program, for every input: LinkValid (also the reference's), Link.take, LinkTake. -/
import Derived.Test.YtonhkadbiepedaaWin
import Derived.Test.YtonhkadbiepedaaLib
import Derived.Test.YtonhkadbiepedaaBox
import Derived.Test.YtonhkadbiepedaaHoc
import Derived.Test.YtonhkadbiepedaaLnk
import Derived.Deep.QuietTactic
import Derived.Deep.RegionHeld3
import Derived.Deep.DeepCutAuto
import Derived.BigQuiet
namespace Go.Proofs.Ytonhkadbiepedaa
open Go.RowKit Go.Sort

set_option maxRecDepth 100000 in
set_option maxHeartbeats 1600000 in
theorem callLinkValid (A : Option Addr) (c : Nat) (d : Int) (ps : List Pkt) (w : World) (B : Nat) (hB : B ≤ w.heap.size) (hm : ps.length ≤ 1048576) (hr : Rd ePkt w B A ps) :
    Calls Try.prog 21 #[.agg #[.int .i64 d, .slice A ps.length c]] w fun e w' => e = .returned (.bool (linkOk d ps)) ∧ Below w.heap.size w w' := by
  have HR := Lib.hid hr
  have E : Hid (linkOk d ps = ((chainB ps && inB d 0 50) && decide (ps.length ≤ 20))) := rfl
  have HK := Lib.hid (heap_alloc_new w (.cells #[.int .i64 d, .slice A ps.length c] 36))
  have HBa := Lib.hid (below1 w (.cells #[.int .i64 d, .slice A ps.length c] 36))
  clear hr
  go_enter Try.func21, Try.ntmps21
  go_wp2_with fail
  go_loopw [3, 9] (fun l i wr => ∃ k : Nat, k ≤ ps.length ∧ i = .int .i64 k ∧ l = .int .i64 (lastAt ps k) ∧ Hid (Below w.heap.size w wr ∧ wr.heap[w.heap.size]? = some (.cells #[.int .i64 d, .slice A ps.length c] 36 (0, 0)) ∧ ∀ i (h : i < ps.length), i < k → pktOk (lastAt ps i) ps[i] = true)) (fun _ i _ => ps.length - (intOf i).toNat)
  case atStart => exact ⟨0, by omega, rfl, rfl, HBa.out, HK.out, fun i _ hi => by omega⟩
  case round =>
    obtain ⟨k, hk, rfl, rfl, HH⟩ := hrel
    obtain ⟨x1, x2, _, _, x5⟩ := cell2 HH.out.2.1
    by_cases hlt : k < ps.length
    · have hd : decide ((k : Int) < ps.length) = true := decide_eq_true (by omega)
      obtain ⟨b, off, rfl, hbB, h1, h2⟩ := (HR.out.below (HH.out.1.mono hB)).at2 rfl hlt rfl
      have hbw : b < wr.heap.size := Nat.lt_of_lt_of_le hbB (Nat.le_trans hB HH.out.1.size)
      have EX : Hid (pktOk (lastAt ps k) ps[k] = (inB ps[k].due (lastAt ps k) 100050 && valOk ps[k].value)) := rfl
      have bad : Hid (pktOk (lastAt ps k) ps[k] = false → linkOk d ps = false) := fun h => by
        have : chainB ps = false := by
          cases q : chainB ps
          · rfl
          · have := chainB_iff.1 q k hlt; rw [h] at this; cases this
        rw [E.out, this]; rfl
      have good : Hid (pktOk (lastAt ps k) ps[k] = true → ∀ i (h : i < ps.length), i < k + 1 → pktOk (lastAt ps i) ps[i] = true) := fun hx i h hi => by
        rcases Nat.lt_or_ge i k with h' | h'
        · exact HH.out.2.2 i h h'
        · have : i = k := by omega
          subst this; exact hx
      have HL := Lib.hid (lastAt_succ hlt)
      obtain ⟨s, hs⟩ : ∃ s, s = lastAt ps k := ⟨_, rfl⟩
      obtain ⟨p, hp⟩ : ∃ p, p = ps[k] := ⟨_, rfl⟩
      rw [← hs] at EX bad good ⊢
      rw [← hp] at EX bad good h1 h2 HL
      clear hs hp
      obtain ⟨due, val⟩ := p
      simp only at h1 h2
      have HBn := Lib.hid (bel_trans HH.out.1 (below1 wr (.cells #[.int .i64 due, .int .i64 val] 46)))
      have HKn := Lib.hid (blkc HH.out.2.1 (below1 wr (.cells #[.int .i64 due, .int .i64 val] 46)))
      cases q1 : inB due s 100050
      · have hb := Lib.hid (bad.out (by rw [EX.out]; show (inB due s 100050 && _) = false; rw [q1]; rfl))
        go_wp2_with (go_at_call 44; refine (callIn _ _ _ _).mono ?_; rintro e w' ⟨rfl, rfl⟩)
        go_ret
        exact ⟨by rw [hb.out] <;> rfl, HBn.out⟩
      · cases q2 : valOk val
        · have hb := Lib.hid (bad.out (by rw [EX.out]; show (inB due s 100050 && valOk val) = false; rw [q1, q2]; rfl))
          go_wp2_with (first | (go_at_call 44; refine (callIn _ _ _ _).mono ?_; rintro e w' ⟨rfl, rfl⟩) | (go_at_call 37; refine (callIsValue _ _).mono ?_; rintro e w' ⟨rfl, rfl⟩))
          go_ret
          exact ⟨by rw [hb.out] <;> rfl, HBn.out⟩
        · have hG := Lib.hid (good.out (by rw [EX.out]; show (inB due s 100050 && valOk val) = true; rw [q1, q2]; rfl))
          go_wp2_with (first | (go_at_call 44; refine (callIn _ _ _ _).mono ?_; rintro e w' ⟨rfl, rfl⟩) | (go_at_call 37; refine (callIsValue _ _).mono ?_; rintro e w' ⟨rfl, rfl⟩))
          go_roundw
          case rel => exact ⟨k + 1, by omega, by go_num, by rw [HL.out], HBn.out, HKn.out, hG.out⟩
          case measure => simp [intOf]; omega
    · have hke : k = ps.length := by omega
      subst hke
      have hd : decide ((ps.length : Int) < ps.length) = false := by simp
      have EC : Hid (chainB ps = true) := chainB_iff.2 fun i hi => HH.out.2.2 i hi hi
      have EE : Hid (linkOk d ps = (inB d 0 50 && decide (ps.length ≤ 20))) := by show _ = _; rw [E.out, EC.out, Bool.true_and]
      cases q1 : inB d 0 50
      · go_wp2_with (go_at_call 44; refine (callIn _ _ _ _).mono ?_; rintro e w' ⟨rfl, rfl⟩)
        go_ret
        exact ⟨by rw [EE.out, q1] <;> rfl, HH.out.1⟩
      · by_cases hl : ps.length ≤ 20
        · have dl : decide ((ps.length : Int) ≤ 20) = true := decide_eq_true (by omega)
          go_wp2_with (go_at_call 44; refine (callIn _ _ _ _).mono ?_; rintro e w' ⟨rfl, rfl⟩)
          go_ret
          exact ⟨by rw [EE.out, q1, decide_eq_true hl] <;> rfl, HH.out.1⟩
        · have dl : decide ((ps.length : Int) ≤ 20) = false := decide_eq_false (by omega)
          go_wp2_with (go_at_call 44; refine (callIn _ _ _ _).mono ?_; rintro e w' ⟨rfl, rfl⟩)
          go_ret
          exact ⟨by rw [EE.out, q1, decide_eq_false hl] <;> rfl, HH.out.1⟩

theorem cutN_step {ps : List Pkt} (hc : chainB ps = true) {tick : Int} {k : Nat} (h : k < ps.length) : (ps[k].due ≤ tick → (ps.take (min (k + 1) (cutN ps tick))).map Pkt.value = (ps.take (min k (cutN ps tick))).map Pkt.value ++ [ps[k].value]) ∧ (¬ ps[k].due ≤ tick → (ps.take (min (k + 1) (cutN ps tick))).map Pkt.value = (ps.take (min k (cutN ps tick))).map Pkt.value) := by
  constructor
  · intro hd
    have hk : k < cutN ps tick := by
      rcases Nat.lt_or_ge k (cutN ps tick) with g | g
      · exact g
      · have := cutN_ge hc g h; omega
    rw [Nat.min_eq_left (by omega), Nat.min_eq_left (by omega), List.take_succ_eq_append_getElem h, List.map_append]
    rfl
  · intro hd
    have hk : cutN ps tick ≤ k := by
      rcases Nat.lt_or_ge k (cutN ps tick) with g | g
      · exact absurd (cutN_lt ps tick k g h) hd
      · exact g
    rw [Nat.min_eq_right (by omega), Nat.min_eq_right (by omega)]
end Go.Proofs.Ytonhkadbiepedaa
