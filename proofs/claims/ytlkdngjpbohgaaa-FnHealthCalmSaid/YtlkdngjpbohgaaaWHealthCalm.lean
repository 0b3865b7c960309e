/- The walk of the law FnHealthCalm: true for every input, and nothing that was there is written. -/
import Derived.Test.YtlkdngjpbohgaaaDrh
import Derived.Test.YtlkdngjpbohgaaaHew
import Derived.Test.YtlkdngjpbohgaaaBox2
namespace Go.Proofs.Ytlkdngjpbohgaaa
open Go.RowKit Go.Sort

theorem hcs0 : (#[.int .i64 0, .int .i64 0, .int .i64 0, .int .i64 0, .int .i64 0] : Array Value).toList = ([0, 0, 0, 0, 0] : List Int).flatMap eInt.enc := rfl

set_option maxRecDepth 100000 in
set_option maxHeartbeats 800000 in
theorem walkFnHealthCalm (A : Option Addr) (c : Nat) (bs : List Int) (w : World) (hc : bs.length ≤ c) (hr : Rd eU8 w w.heap.size A bs) (hby : ∀ x ∈ bs, 0 ≤ x ∧ x ≤ 255) :
    Calls Try.prog 4 #[.slice A bs.length c] w fun e w' => e = .returned (.bool true) ∧ Below w.heap.size w w' := by
  by_cases hl : bs.length ≤ 1048576
  · have HC := Lib.hid (callDrawHealthRun A c bs w hc hl hr hby)
    clear hr hby
    go_enter Try.func4, Try.ntmps4
    go_wp2_with fail
    refine HC.out.mono ?_
    rintro e w1 ⟨⟨hf, hn⟩, At, ct, t, Af, cf, fs, rfl, hrt, hrf, hct, hlt, hcf, hlf, hb1⟩
    have HB1 := Lib.hid hb1
    have HT := Lib.hid hrt
    clear hb1 HC hrt hrf
    have HXB : Hid ((w1.alloc (.cells #[.bool hf, .int .i64 hn] 32)).heap[w1.heap.size]? = some (.cells #[.bool hf, .int .i64 hn] 32 (0, 0))) := heap_alloc_new w1 _
    have HBa := Lib.hid (below1 w1 (.cells #[.bool hf, .int .i64 hn] 32))
    obtain ⟨x, hx⟩ : ∃ x, x = healthRun ⟨hf, hn⟩ t [0, 0, 0, 0, 0] := ⟨_, rfl⟩
    have T1 : ∀ W A c, Below w1.heap.size w1 W → Rd eInt W W.heap.size A [0, 0, 0, 0, 0] → Hid (Calls Try.prog 18 #[.agg #[.bool hf, .int .i64 hn], .slice At t.length ct, .slice A 5 c] W fun e w' => e = .returned x.val ∧ Below W.heap.size W w') := fun W A c hW hA => by
      have := callHealthRun At A ct c ⟨hf, hn⟩ t [0, 0, 0, 0, 0] W W.heap.size (Nat.le_refl _) (by omega) (by decide) ((HT.out.below hW).mono hW.size) hA
      rw [← hx] at this; exact this
    have T2 : ∀ W A c, Below w1.heap.size w1 W → Rd eInt W W.heap.size A [0, 0, 0, 0, 0] → Hid (Calls Try.prog 19 #[.agg #[.bool hf, .int .i64 hn], .slice At t.length ct, .slice A 5 c] W fun e w' => e = .returned x.val ∧ Below W.heap.size W w') := fun W A c hW hA => by
      have := callSHealthRun At A ct c ⟨hf, hn⟩ t [0, 0, 0, 0, 0] W W.heap.size (Nat.le_refl _) (by omega) (by decide) ((HT.out.below hW).mono hW.size) hA
      rw [← hx] at this; exact this
    have HX := Lib.hid hx
    clear hx
    obtain ⟨xf, xn⟩ := x
    have hmk : ∀ w : World, (Instr.makeSlice 23 (.int .i64 5) (.int .i64 5)).run Try.prog w = .ok (.slice (some ⟨w.heap.size, 0, none⟩) 5 5) (w.alloc (.cells #[.int .i64 0, .int .i64 0, .int .i64 0, .int .i64 0, .int .i64 0] 3)) := fun _ => by kernel_rfl
    have neqs := neqHlt
    have eqls := eqlHlt
    have gdh := guardHlt
    have hq1 : (xf == xf) = true := by simp
    have hq2 : (xn == xn) = true := by simp
    have hq3 : (hf == hf) = true := by simp
    have hq4 : (hn == hn) = true := by simp
    obtain ⟨k1, k2, _, _, k5⟩ := cell2 HXB.out
    go_upto_region 4 with (fail)
    obtain ⟨v2, hv2⟩ : ∃ v2, v2 = w1.alloc (.cells #[.bool hf, .int .i64 hn] 32) := ⟨_, rfl⟩
    rw [← hv2]
    rw [← hv2] at HXB HBa k1 k2 k5
    have hpz : w1.heap.size < v2.heap.size := k5
    clear hv2
    go_cut [6] (fun s6 wx => ∃ z, s6 = .pointer (some ⟨z, 0, none⟩) ∧ Hid (Below v2.heap.size v2 wx ∧ v2.heap.size ≤ z ∧ wx.heap[z]? = some (.cells #[.bool xf, .int .i64 xn] 32 (0, 0))))
    case first =>
      go_region_with (go_at_call 18; refine (T1 _ _ _ (by first | with_reducible exact bz1 HBa.out _ | with_reducible exact bz2 HBa.out _ _) (by first | with_reducible exact rdz1 v2 hcs0 | with_reducible exact rdz2 v2 _ hcs0 | with_reducible exact rdz3 v2 _ hcs0)).out.mono ?_; rintro e w5 ⟨rfl, hb5⟩; (first | (have hm5 := (by with_reducible exact blkB (o := (.cells #[.bool false, .int .i64 0] 32 (0, 0))) hb5 : w5.heap[v2.heap.size]? = some (.cells #[.bool false, .int .i64 0] 32 (0, 0))); obtain ⟨m1, m2, m3, m4, m5⟩ := cell2 hm5) | (have hm5 := (by with_reducible exact blkC (o := (.cells #[.bool false, .int .i64 0] 32 (0, 0))) hb5 : w5.heap[v2.heap.size + 1]? = some (.cells #[.bool false, .int .i64 0] 32 (0, 0))); obtain ⟨m1, m2, m3, m4, m5⟩ := cell2 hm5) | skip))
      all_goals (go_wp2_with fail; go_meet)
      all_goals first
        | with_reducible exact endA _ _ _ hb5
        | with_reducible exact endB _ _ hb5
        | with_reducible exact endC _ _ hb5
    case rest =>
      obtain ⟨z, rfl, hZ⟩ := hcut
      have HB3 := Lib.hid (bel_trans HBa.out hZ.out.1)
      have HP3 := Lib.hid (blkc HXB.out hZ.out.1)
      obtain ⟨a1, a2, _, _, a5⟩ := cell2 HP3.out
      obtain ⟨b1, b2, _, _, b5⟩ := cell2 hZ.out.2.2
      clear k1 k2 k5 T1
      go_upto_region 5 with (fail)
      go_cut [26] (fun s26 wx => s26 = .bool false ∧ Below wc.heap.size wc wx)
      case first =>
        go_region_with (go_at_call 19; refine (T2 _ _ _ (by with_reducible exact bz1 HB3.out _) (by with_reducible exact rdz1 wc hcs0)).out.mono ?_; rintro e w5 ⟨rfl, hb5⟩; have hbz := bel_trans (below_drew (below1 wc (.cells #[.int .i64 0, .int .i64 0, .int .i64 0, .int .i64 0, .int .i64 0] 3))) hb5; obtain ⟨d1, d2, _, _, d5⟩ := cell2 (blkc HP3.out hbz); obtain ⟨e1, e2, _, _, e5⟩ := cell2 (blkc hZ.out.2.2 hbz))
        all_goals (go_wp2_with fail; go_meet)
        all_goals exact ⟨rfl, hbz⟩
      case rest =>
        obtain ⟨rfl, hbx⟩ := hcut
        have HB5 := Lib.hid (bel_trans HB3.out hbx)
        have HP5 := Lib.hid (blkc HP3.out hbx)
        have HZ5 := Lib.hid (blkc hZ.out.2.2 hbx)
        clear hbx a1 a2 a5 b1 b2 b5 T2 hZ
        obtain ⟨a1, a2, _, _, a5⟩ := cell2 HP5.out
        have V1 : ∀ W, Hid (Calls Try.prog 20 #[.agg #[.bool hf, .int .i64 hn]] W fun e w' => e = .returned (.bool (hOk ⟨hf, hn⟩)) ∧ Below W.heap.size W w') := fun W => callSHealthValid ⟨hf, hn⟩ W
        cases q1 : hOk ⟨hf, hn⟩
        · rw [q1] at V1
          go_wp2_with fail
          refine (V1 _).out.mono ?_
          rintro e w6 ⟨rfl, hb6⟩
          have HB6 := Lib.hid (bel_trans HB5.out hb6)
          clear hb6 a1 a2 V1
          go_wp2_with fail
          refine (callAlive _).mono ?_
          rintro e w9 ⟨rfl, hb9⟩
          go_wp2
          go_ret
          exact ⟨rfl, bel_trans HB1.out (bel_trans HB6.out hb9)⟩
        · rw [q1] at V1
          have HQ1 := Lib.hid q1
          clear q1
          go_wp2_with fail
          refine (V1 _).out.mono ?_
          rintro e w6 ⟨rfl, hb6⟩
          have HB6 := Lib.hid (bel_trans HB5.out hb6)
          have HP6 := Lib.hid (blkc HP5.out hb6)
          have HZ6 := Lib.hid (blkc HZ5.out hb6)
          clear hb6 a1 a2 a5 V1
          obtain ⟨a1, a2, _, _, a5⟩ := cell2 HP6.out
          have TZ : Hid (Calls Try.prog 18 #[.agg #[.bool hf, .int .i64 hn], .slice (some ⟨w6.heap.size, 0, none⟩) 3 3, .slice (some ⟨w6.heap.size + 1, 0, none⟩) 4 4] ((w6.alloc (.cells #[.int .i64 0, .int .i64 0, .int .i64 0] 3)).alloc (.cells #[.int .i64 1, .int .i64 2, .int .i64 3, .int .i64 1] 3)) fun e w' => e = .returned (.agg #[.bool hf, .int .i64 hn]) ∧ Below ((w6.alloc (.cells #[.int .i64 0, .int .i64 0, .int .i64 0] 3)).alloc (.cells #[.int .i64 1, .int .i64 2, .int .i64 3, .int .i64 1] 3)).heap.size ((w6.alloc (.cells #[.int .i64 0, .int .i64 0, .int .i64 0] 3)).alloc (.cells #[.int .i64 1, .int .i64 2, .int .i64 3, .int .i64 1] 3)) w') := by
            have := callHealthRun (some ⟨w6.heap.size, 0, none⟩) (some ⟨w6.heap.size + 1, 0, none⟩) 3 4 ⟨hf, hn⟩ [0, 0, 0] [1, 2, 3, 1] _ _ (Nat.le_refl _) (by decide) (by decide) (rd_blk (alloc_at0 w6 (.cells #[.int .i64 0, .int .i64 0, .int .i64 0] 3) (.cells #[.int .i64 1, .int .i64 2, .int .i64 3, .int .i64 1] 3)) rfl) (rd_blk (alloc_at1 w6 _ _) rfl)
            rw [healthRun_calm HQ1.out] at this
            exact this
          go_wp2_with fail
          refine TZ.out.mono ?_
          rintro e w7 ⟨rfl, hb7⟩
          have hb7' := bel_trans (below2 w6 _ _) hb7
          have HB7 := Lib.hid (bel_trans HB6.out hb7')
          have HP7 := Lib.hid (blkc HP6.out hb7')
          have HZ7 := Lib.hid (blkc HZ6.out hb7')
          clear hb7 hb7' a1 a2 a5 TZ
          obtain ⟨a1, a2, _, _, a5⟩ := cell2 HP7.out
          obtain ⟨b1, b2, _, _, b5⟩ := cell2 HZ7.out
          have hln : decide ((fs.length : Int) ≥ 0) = true := decide_eq_true (by omega)
          have V2 : ∀ W, Below w1.heap.size w1 W → Hid (Calls Try.prog 21 #[.slice At t.length ct] W fun e w' => e = .returned (.bool (tabOk t)) ∧ Below W.heap.size W w') := fun W hW =>
            callSHealthTable At ct t W w1.heap.size hW.size (by omega) (HT.out.below hW)
          have hxe := HX.out
          rw [healthRun_none] at hxe
          unfold hArg at hxe
          rw [HQ1.out] at hxe
          cases q2 : tabOk t
          · rw [q2] at V2 hxe
            injection hxe with e1 e2
            subst e1
            subst e2
            have hlast : ∀ W, Below w1.heap.size w1 W → Below w.heap.size w W := fun W hW => bel_trans HB1.out hW
            have hl2 := Lib.hid hlast
            clear hlast q2
            cases hf
            · by_cases hz : hn = 0
              · subst hz
                go_wp2_with fail
                go_ret
                exact ⟨rfl, hl2.out _ (bel_trans HB7.out (below1 _ _))⟩
              · have hz' : ((0 : Int) == hn) = false := by rw [beq_eq_false_iff_ne]; exact fun e => hz e.symm
                clear hz
                go_wp2_with fail
                refine (V2 _ (bel_trans HB7.out (below1 _ _))).out.mono ?_
                rintro e w8 ⟨rfl, hb8⟩
                go_wp2
                go_ret
                exact ⟨rfl, hl2.out _ (bel_trans (bel_trans HB7.out (below1 _ _)) hb8)⟩
            · go_wp2_with fail
              refine (V2 _ (bel_trans HB7.out (below1 _ _))).out.mono ?_
              rintro e w8 ⟨rfl, hb8⟩
              go_wp2
              go_ret
              exact ⟨rfl, hl2.out _ (bel_trans (bel_trans HB7.out (below1 _ _)) hb8)⟩
          · rw [q2] at hxe
            injection hxe with e1 e2
            subst e1
            subst e2
            clear q2 V2
            go_wp2_with fail
            go_ret
            exact ⟨rfl, bel_trans HB1.out (bel_trans HB7.out (below1 _ _))⟩
  · have hl' : 1048576 < bs.length := by omega
    clear hr hby hl
    go_enter Try.func4, Try.ntmps4
    go_wp2
    go_ret
    exact ⟨rfl, Below.refl _ _⟩
end Go.Proofs.Ytlkdngjpbohgaaa
