/- LinkSend and LinkTake of the program, for every input. -/
import Derived.Test.YtonhkadbiepedaaLke
namespace Go.Proofs.Ytonhkadbiepedaa
open Go.RowKit Go.Sort

theorem linkSend_good {d : Int} {ps : List Pkt} {tick v : Int} (h : ((linkOk d ps && inB tick 0 100000) && inB v 0 255) = true) : linkSend d ps tick v = ((d, if linkFull d ps tick then ps else ps ++ [⟨tick + d, v⟩]), !linkFull d ps tick) := by
  unfold linkSend
  rw [if_pos h]
  cases linkFull d ps tick <;> rfl
set_option maxRecDepth 100000 in
set_option maxHeartbeats 3200000 in
theorem callLinkSend (A : Option Addr) (c : Nat) (d : Int) (ps : List Pkt) (tick v : Int) (w : World) (B : Nat) (hB : B ≤ w.heap.size) (hc : ps.length ≤ c) (hm : ps.length ≤ 1000) (hr : Rd ePkt w B A ps) :
    Calls Try.prog 17 #[.agg #[.int .i64 d, .slice A ps.length c], .int .i64 tick, .int .i64 v] w fun e w' => ∃ A1, e = .returned (.tuple #[.agg #[.int .i64 (linkSend d ps tick v).1.1, .slice A1 (linkSend d ps tick v).1.2.length (linkSend d ps tick v).1.2.length], .bool (linkSend d ps tick v).2]) ∧ Own ePkt 46 w' w.heap.size (.slice A1 (linkSend d ps tick v).1.2.length (linkSend d ps tick v).1.2.length) (linkSend d ps tick v).1.2 ∧ Below w.heap.size w w' := by
  have V : Hid (∀ W, Below w.heap.size w W → Calls Try.prog 21 #[.agg #[.int .i64 d, .slice A ps.length c]] W fun e w' => e = .returned (.bool (linkOk d ps)) ∧ Below W.heap.size W w') := fun W hW => callLinkValid A c d ps W B (Nat.le_trans hB hW.size) (by omega) (hr.below (hW.mono hB))
  have S : Hid (∀ W, linkOk d ps = true → inB tick 0 100000 = true → Below w.heap.size w W → Calls Try.prog 45 #[.agg #[.int .i64 d, .slice A ps.length c], .int .i64 tick, .int .i64 v] W fun e w' => ∃ A1, e = .returned (.tuple #[.agg #[.int .i64 d, .slice A1 (if linkFull d ps tick then ps else ps ++ [⟨tick + d, v⟩]).length (if linkFull d ps tick then ps else ps ++ [⟨tick + d, v⟩]).length], .bool (!linkFull d ps tick)]) ∧ Own ePkt 46 w' W.heap.size (.slice A1 (if linkFull d ps tick then ps else ps ++ [⟨tick + d, v⟩]).length (if linkFull d ps tick then ps else ps ++ [⟨tick + d, v⟩]).length) (if linkFull d ps tick then ps else ps ++ [⟨tick + d, v⟩]) ∧ Below W.heap.size W w') := fun W h1 h2 hW => by
    have hd := (linkOk_iff.1 h1).2.1
    have ht := inB_iff.1 h2
    exact callLSend A c d ps tick v W B (Nat.le_trans hB hW.size) hc hm hd.1 hd.2 ht.1 ht.2 (hr.below (hW.mono hB))
  clear hr
  have K0 := Lib.hid (alloc_at0 w (.cells #[.int .i64 d, .slice A ps.length c] 36) (.cells #[.int .i64 0, .slice none 0 0] 36))
  have K1 := Lib.hid (alloc_at1 w (.cells #[.int .i64 d, .slice A ps.length c] 36) (.cells #[.int .i64 0, .slice none 0 0] 36))
  have HBAD : ((linkOk d ps && inB tick 0 100000) && inB v 0 255) = false → linkSend d ps tick v = ((0, []), false) := fun h => by unfold linkSend; rw [h]; rfl
  have HV : Hid (valOk v = inB v 0 255) := rfl
  cases q1 : linkOk d ps
  · rw [q1] at V HBAD
    rw [HBAD rfl]
    clear HBAD S q1
    go_enter Try.func17, Try.ntmps17
    go_wp2_with fail
    refine (V.out _ (below2 w _ _)).mono ?_
    rintro e w1 ⟨rfl, hb1⟩
    have HB1 := Lib.hid (bel_trans (below2 w _ _) hb1)
    have KR := Lib.hid (blkc K1.out hb1)
    clear hb1
    obtain ⟨a1, a2, a3, a4, a5⟩ := cell2 KR.out
    obtain ⟨s0, s1⟩ := res2 KR.out (.int .i64 0) (.slice none 0 0)
    go_wp2
    exact bodyPost_ret (v := .tuple #[.agg #[.int .i64 0, .slice none 0 0], .bool false]) (by simp [results, Try.results17, go_sem, s0, s1]) rfl ⟨none, rfl, Own.none_, bset2 HB1.out (by omega) _ _⟩
  · cases q2 : inB tick 0 100000
    · rw [q1, q2] at HBAD
      rw [q1] at V
      rw [HBAD rfl]
      clear HBAD S q1
      go_enter Try.func17, Try.ntmps17
      go_wp2_with fail
      refine (V.out _ (below2 w _ _)).mono ?_
      rintro e w1 ⟨rfl, hb1⟩
      have HB1 := Lib.hid (bel_trans (below2 w _ _) hb1)
      have KR := Lib.hid (blkc K1.out hb1)
      clear hb1
      obtain ⟨a1, a2, a3, a4, a5⟩ := cell2 KR.out
      obtain ⟨s0, s1⟩ := res2 KR.out (.int .i64 0) (.slice none 0 0)
      go_wp2_with (first | (go_at_call 44; refine (callIn _ _ _ _).mono ?_; rintro e w' ⟨rfl, rfl⟩))
      exact bodyPost_ret (v := .tuple #[.agg #[.int .i64 0, .slice none 0 0], .bool false]) (by simp [results, Try.results17, go_sem, s0, s1]) rfl ⟨none, rfl, Own.none_, bset2 HB1.out (by omega) _ _⟩
    · cases q3 : inB v 0 255
      · rw [q1, q2, q3] at HBAD
        rw [q1] at V
        rw [HBAD rfl]
        have q4 : valOk v = false := HV.out.trans q3
        clear HBAD S q1 q3
        go_enter Try.func17, Try.ntmps17
        go_wp2_with fail
        refine (V.out _ (below2 w _ _)).mono ?_
        rintro e w1 ⟨rfl, hb1⟩
        have HB1 := Lib.hid (bel_trans (below2 w _ _) hb1)
        have KR := Lib.hid (blkc K1.out hb1)
        clear hb1
        obtain ⟨a1, a2, a3, a4, a5⟩ := cell2 KR.out
        obtain ⟨s0, s1⟩ := res2 KR.out (.int .i64 0) (.slice none 0 0)
        go_wp2_with (first | (go_at_call 44; refine (callIn _ _ _ _).mono ?_; rintro e w' ⟨rfl, rfl⟩) | (go_at_call 37; refine (callIsValue _ _).mono ?_; rintro e w' ⟨rfl, rfl⟩))
        exact bodyPost_ret (v := .tuple #[.agg #[.int .i64 0, .slice none 0 0], .bool false]) (by simp [results, Try.results17, go_sem, s0, s1]) rfl ⟨none, rfl, Own.none_, bset2 HB1.out (by omega) _ _⟩
      · have G := linkSend_good (d := d) (ps := ps) (tick := tick) (v := v) (by rw [q1, q2, q3]; rfl)
        rw [G]
        have S' : Hid (∀ W, Below w.heap.size w W → _) := fun W hW => S.out W q1 q2 hW
        rw [q1] at V
        have q4 : valOk v = true := HV.out.trans q3
        clear HBAD S q1 q3 G
        generalize linkFull d ps tick = f at S' ⊢
        obtain ⟨R, hR⟩ : ∃ R, R = if f then ps else ps ++ [(⟨tick + d, v⟩ : Pkt)] := ⟨_, rfl⟩
        rw [← hR] at S' ⊢
        clear hR
        simp only
        generalize (!f) = g at S' ⊢
        go_enter Try.func17, Try.ntmps17
        go_wp2_with fail
        refine (V.out _ (below2 w _ _)).mono ?_
        rintro e w1 ⟨rfl, hb1⟩
        have HB1 := Lib.hid (bel_trans (below2 w _ _) hb1)
        have KB := Lib.hid (blkc K0.out hb1)
        have KR := Lib.hid (blkc K1.out hb1)
        clear hb1
        obtain ⟨b1, b2, b3, b4, b5⟩ := cell2 KB.out
        go_wp2_with (first | (go_at_call 44; refine (callIn _ _ _ _).mono ?_; rintro e w' ⟨rfl, rfl⟩) | (go_at_call 37; refine (callIsValue _ _).mono ?_; rintro e w' ⟨rfl, rfl⟩))
        refine (S'.out _ HB1.out).mono ?_
        rintro e w2 ⟨A1, rfl, hown, hb2⟩
        have HB2 := Lib.hid (bel_trans HB1.out hb2)
        have KR2 := Lib.hid (blkc KR.out hb2)
        have hs1 : w.heap.size + 1 < w1.heap.size := (cell2 KR.out).2.2.2.2
        have HO := Lib.hid (hown.more (base' := w.heap.size + 1 + 1) hs1)
        clear hb2 hown b1 b2 b3 b4 b5
        obtain ⟨a1, a2, a3, a4, a5⟩ := cell2 KR2.out
        obtain ⟨s0, s1⟩ := res2 KR2.out (.int .i64 d) (.slice A1 R.length R.length)
        go_wp2
        exact bodyPost_ret (v := .tuple #[.agg #[.int .i64 d, .slice A1 R.length R.length], .bool g]) (by simp [results, Try.results17, go_sem, s0, s1]) rfl ⟨A1, rfl, (HO.out.kept (gset2 (g := w.heap.size + 1) _ _) (fun k hk => by cases hk; omega)).more (base' := w.heap.size) (by omega), bset2 HB2.out (by omega) _ _⟩

set_option maxRecDepth 100000 in
set_option maxHeartbeats 3200000 in
theorem callLinkTake (A : Option Addr) (c : Nat) (d : Int) (ps : List Pkt) (tick : Int) (w : World) (B : Nat) (hB : B ≤ w.heap.size) (hc : ps.length ≤ c) (hm : ps.length ≤ 1000) (hr : Rd ePkt w B A ps) :
    Calls Try.prog 20 #[.agg #[.int .i64 d, .slice A ps.length c], .int .i64 tick] w fun e w' => ∃ A1 A2, e = .returned (.tuple #[.agg #[.int .i64 (linkTake d ps tick).1.1, .slice A1 (linkTake d ps tick).1.2.length (linkTake d ps tick).1.2.length], .slice A2 (linkTake d ps tick).2.length (linkTake d ps tick).2.length]) ∧ Own ePkt 46 w' w.heap.size (.slice A1 (linkTake d ps tick).1.2.length (linkTake d ps tick).1.2.length) (linkTake d ps tick).1.2 ∧ Own eInt 3 w' w.heap.size (.slice A2 (linkTake d ps tick).2.length (linkTake d ps tick).2.length) (linkTake d ps tick).2 ∧ Below w.heap.size w w' := by
  have V : Hid (∀ W, Below w.heap.size w W → Calls Try.prog 21 #[.agg #[.int .i64 d, .slice A ps.length c]] W fun e w' => e = .returned (.bool (linkOk d ps)) ∧ Below W.heap.size W w') := fun W hW => callLinkValid A c d ps W B (Nat.le_trans hB hW.size) (by omega) (hr.below (hW.mono hB))
  have S : Hid (∀ W, linkOk d ps = true → Below w.heap.size w W → Calls Try.prog 47 #[.agg #[.int .i64 d, .slice A ps.length c], .int .i64 tick] W fun e w' => ∃ A1 A2, e = .returned (.tuple #[.agg #[.int .i64 d, .slice A1 (ps.drop (cutN ps tick)).length (ps.drop (cutN ps tick)).length], .slice A2 ((ps.take (cutN ps tick)).map Pkt.value).length ((ps.take (cutN ps tick)).map Pkt.value).length]) ∧ Own ePkt 46 w' W.heap.size (.slice A1 (ps.drop (cutN ps tick)).length (ps.drop (cutN ps tick)).length) (ps.drop (cutN ps tick)) ∧ Own eInt 3 w' W.heap.size (.slice A2 ((ps.take (cutN ps tick)).map Pkt.value).length ((ps.take (cutN ps tick)).map Pkt.value).length) ((ps.take (cutN ps tick)).map Pkt.value) ∧ Below W.heap.size W w') := fun W h1 hW =>
    callLTake A c d ps tick W B (Nat.le_trans hB hW.size) hc hm (linkOk_iff.1 h1).1 (hr.below (hW.mono hB))
  clear hr
  have K0 := Lib.hid (alloc_at0 w (.cells #[.int .i64 d, .slice A ps.length c] 36) (.cells #[.int .i64 0, .slice none 0 0] 36))
  have K1 := Lib.hid (alloc_at1 w (.cells #[.int .i64 d, .slice A ps.length c] 36) (.cells #[.int .i64 0, .slice none 0 0] 36))
  have HBAD : (linkOk d ps && inB tick 0 100000) = false → linkTake d ps tick = ((0, []), []) := fun h => by unfold linkTake; rw [h]; rfl
  cases q1 : linkOk d ps
  · rw [q1] at V HBAD
    rw [HBAD rfl]
    clear HBAD S q1
    go_enter Try.func20, Try.ntmps20
    go_wp2_with fail
    refine (V.out _ (below2 w _ _)).mono ?_
    rintro e w1 ⟨rfl, hb1⟩
    have HB1 := Lib.hid (bel_trans (below2 w _ _) hb1)
    have KR := Lib.hid (blkc K1.out hb1)
    clear hb1
    obtain ⟨a1, a2, a3, a4, a5⟩ := cell2 KR.out
    obtain ⟨s0, s1⟩ := res2 KR.out (.int .i64 0) (.slice none 0 0)
    go_wp2
    exact bodyPost_ret (v := .tuple #[.agg #[.int .i64 0, .slice none 0 0], .slice none 0 0]) (by simp [results, Try.results20, go_sem, s0, s1]) rfl ⟨none, none, rfl, Own.none_, Own.none_, bset2 HB1.out (by omega) _ _⟩
  · cases q2 : inB tick 0 100000
    · rw [q1, q2] at HBAD
      rw [q1] at V
      rw [HBAD rfl]
      clear HBAD S q1
      go_enter Try.func20, Try.ntmps20
      go_wp2_with fail
      refine (V.out _ (below2 w _ _)).mono ?_
      rintro e w1 ⟨rfl, hb1⟩
      have HB1 := Lib.hid (bel_trans (below2 w _ _) hb1)
      have KR := Lib.hid (blkc K1.out hb1)
      clear hb1
      obtain ⟨a1, a2, a3, a4, a5⟩ := cell2 KR.out
      obtain ⟨s0, s1⟩ := res2 KR.out (.int .i64 0) (.slice none 0 0)
      go_wp2_with (first | (go_at_call 44; refine (callIn _ _ _ _).mono ?_; rintro e w' ⟨rfl, rfl⟩))
      exact bodyPost_ret (v := .tuple #[.agg #[.int .i64 0, .slice none 0 0], .slice none 0 0]) (by simp [results, Try.results20, go_sem, s0, s1]) rfl ⟨none, none, rfl, Own.none_, Own.none_, bset2 HB1.out (by omega) _ _⟩
    · have G : linkTake d ps tick = ((d, ps.drop (cutN ps tick)), (ps.take (cutN ps tick)).map Pkt.value) := by unfold linkTake; rw [q1, q2]; rfl
      rw [G]
      have S' : Hid (∀ W, Below w.heap.size w W → _) := fun W hW => S.out W q1 hW
      rw [q1] at V
      clear HBAD S q1 G
      obtain ⟨O, hO⟩ : ∃ O, O = (ps.take (cutN ps tick)).map Pkt.value := ⟨_, rfl⟩
      obtain ⟨R, hR⟩ : ∃ R, R = ps.drop (cutN ps tick) := ⟨_, rfl⟩
      rw [← hO, ← hR] at S' ⊢
      clear hO hR
      simp only
      go_enter Try.func20, Try.ntmps20
      go_wp2_with fail
      refine (V.out _ (below2 w _ _)).mono ?_
      rintro e w1 ⟨rfl, hb1⟩
      have HB1 := Lib.hid (bel_trans (below2 w _ _) hb1)
      have KB := Lib.hid (blkc K0.out hb1)
      have KR := Lib.hid (blkc K1.out hb1)
      clear hb1
      obtain ⟨b1, b2, b3, b4, b5⟩ := cell2 KB.out
      go_wp2_with (go_at_call 44; refine (callIn _ _ _ _).mono ?_; rintro e w' ⟨rfl, rfl⟩)
      refine (S'.out _ HB1.out).mono ?_
      rintro e w2 ⟨A1, A2, rfl, hown, hown2, hb2⟩
      have HB2 := Lib.hid (bel_trans HB1.out hb2)
      have KR2 := Lib.hid (blkc KR.out hb2)
      have hs1 : w.heap.size + 1 < w1.heap.size := (cell2 KR.out).2.2.2.2
      have HO := Lib.hid (hown.more (base' := w.heap.size + 1 + 1) hs1)
      have HO2 := Lib.hid (hown2.more (base' := w.heap.size + 1 + 1) hs1)
      clear hb2 hown hown2 b1 b2 b3 b4 b5
      obtain ⟨a1, a2, a3, a4, a5⟩ := cell2 KR2.out
      obtain ⟨s0, s1⟩ := res2 KR2.out (.int .i64 d) (.slice A1 R.length R.length)
      go_wp2
      exact bodyPost_ret (v := .tuple #[.agg #[.int .i64 d, .slice A1 R.length R.length], .slice A2 O.length O.length]) (by simp [results, Try.results20, go_sem, s0, s1]) rfl ⟨A1, A2, rfl, (HO.out.kept (gset2 (g := w.heap.size + 1) _ _) (fun k hk => by cases hk; omega)).more (base' := w.heap.size) (by omega), (HO2.out.kept (gset2 (g := w.heap.size + 1) _ _) (fun k hk => by cases hk; omega)).more (base' := w.heap.size) (by omega), bset2 HB2.out (by omega) _ _⟩
end Go.Proofs.Ytonhkadbiepedaa
