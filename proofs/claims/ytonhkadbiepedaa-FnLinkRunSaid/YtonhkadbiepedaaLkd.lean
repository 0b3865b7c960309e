/- Link.take and Link.send of the program, for every input. -/
import Derived.Test.YtonhkadbiepedaaLkc
import Derived.Test.YtonhkadbiepedaaStp
namespace Go.Proofs.Ytonhkadbiepedaa
open Go.RowKit Go.Sort

theorem copyDrop (A : Option Addr) (c : Nat) (ps : List Pkt) (n : Nat) (w : World) (B : Nat) (hB : B ≤ w.heap.size) (hc : ps.length ≤ c) (hm : ps.length ≤ 1048576) (hr : Rd ePkt w B A ps) :
    Calls Try.prog 61 #[.slice (if c = n then A else A.map (·.add (n * 2))) (ps.length - n) (c - n)] w fun e w' => ∃ A', e = .returned (.slice A' (ps.drop n).length (ps.drop n).length) ∧ Own ePkt 46 w' w.heap.size (.slice A' (ps.drop n).length (ps.drop n).length) (ps.drop n) ∧ Below w.heap.size w w' := by
  have e : (ps.drop n).length = ps.length - n := List.length_drop ..
  have := callCopyPkt (if c = n then A else A.map (·.add (n * 2))) (c - n) (ps.drop n) w B hB (by omega) (by omega) (hr.drop (m := n) hc)
  rw [e] at this ⊢
  exact this
set_option maxRecDepth 100000 in
set_option maxHeartbeats 3200000 in
theorem callLTake (A : Option Addr) (c : Nat) (d : Int) (ps : List Pkt) (tick : Int) (w : World) (B : Nat) (hB : B ≤ w.heap.size) (hc : ps.length ≤ c) (hm : ps.length ≤ 1000) (hch : chainB ps = true) (hr : Rd ePkt w B A ps) :
    Calls Try.prog 47 #[.agg #[.int .i64 d, .slice A ps.length c], .int .i64 tick] w fun e w' => ∃ A1 A2, e = .returned (.tuple #[.agg #[.int .i64 d, .slice A1 (ps.drop (cutN ps tick)).length (ps.drop (cutN ps tick)).length], .slice A2 ((ps.take (cutN ps tick)).map Pkt.value).length ((ps.take (cutN ps tick)).map Pkt.value).length]) ∧ Own ePkt 46 w' w.heap.size (.slice A1 (ps.drop (cutN ps tick)).length (ps.drop (cutN ps tick)).length) (ps.drop (cutN ps tick)) ∧ Own eInt 3 w' w.heap.size (.slice A2 ((ps.take (cutN ps tick)).map Pkt.value).length ((ps.take (cutN ps tick)).map Pkt.value).length) ((ps.take (cutN ps tick)).map Pkt.value) ∧ Below w.heap.size w w' := by
  have HR := Lib.hid hr
  have HST : Hid (∀ k (h : k < ps.length), (ps[k].due ≤ tick → (ps.take (min (k + 1) (cutN ps tick))).map Pkt.value = (ps.take (min k (cutN ps tick))).map Pkt.value ++ [ps[k].value]) ∧ (¬ ps[k].due ≤ tick → (ps.take (min (k + 1) (cutN ps tick))).map Pkt.value = (ps.take (min k (cutN ps tick))).map Pkt.value)) := fun k h => cutN_step hch h
  have hn := cutN_le ps tick
  clear hr hch
  generalize cutN ps tick = n at *
  have HLN : Hid (∀ k, ((ps.take (min k n)).map Pkt.value).length ≤ 1000) := fun k => by rw [List.length_map, List.length_take]; omega
  have HFIN : Hid ((ps.take (min ps.length n)).map Pkt.value = (ps.take n).map Pkt.value) := by show _ = _; rw [Nat.min_eq_right hn]
  have HOL : Hid (((ps.take n).map Pkt.value).length = n) := by show _ = _; rw [List.length_map, List.length_take]; omega
  obtain ⟨O, hO⟩ : ∃ O, O = (ps.take n).map Pkt.value := ⟨_, rfl⟩
  obtain ⟨R, hR⟩ : ∃ R, R = ps.drop n := ⟨_, rfl⟩
  have HC : Hid (∀ W, Below w.heap.size w W → Calls Try.prog 61 #[.slice (if c = n then A else A.map (·.add (n * 2))) (ps.length - n) (c - n)] W fun e w' => ∃ A', e = .returned (.slice A' R.length R.length) ∧ Own ePkt 46 w' W.heap.size (.slice A' R.length R.length) R ∧ Below W.heap.size W w') := fun W hW => by
    rw [hR]
    exact copyDrop A c ps n W B (Nat.le_trans hB hW.size) hc (by omega) (HR.out.below (hW.mono hB))
  rw [← hO] at HFIN HOL ⊢
  rw [← hR]
  clear hO hR
  have K0 := Lib.hid (alloc_at0 w (.cells #[.int .i64 d, .slice A ps.length c] 36) (.cells #[.int .i64 0, .slice none 0 0] 36))
  have K1 := Lib.hid (alloc_at1 w (.cells #[.int .i64 d, .slice A ps.length c] 36) (.cells #[.int .i64 0, .slice none 0 0] 36))
  have HBa := Lib.hid (below2 w (.cells #[.int .i64 d, .slice A ps.length c] 36) (.cells #[.int .i64 0, .slice none 0 0] 36))
  go_enter Try.func47, Try.ntmps47
  go_wp2_with fail
  go_loopw [6, 12] (fun v i wr => ∃ k : Nat, k ≤ ps.length ∧ i = .int .i64 k ∧ Hid (Own eInt 3 wr (w.heap.size + 1 + 1) v ((ps.take (min k n)).map Pkt.value) ∧ Below w.heap.size w wr ∧ wr.heap[w.heap.size]? = some (.cells #[.int .i64 d, .slice A ps.length c] 36 (0, 0)) ∧ wr.heap[w.heap.size + 1]? = some (.cells #[.int .i64 0, .slice none 0 0] 36 (0, 0)))) (fun _ i _ => ps.length - (intOf i).toNat)
  case atStart => exact ⟨0, by omega, rfl, by rw [Nat.zero_min]; exact Own.none_, HBa.out, K0.out, K1.out⟩
  case round =>
    obtain ⟨k, hk, rfl, HH⟩ := hrel
    have hs1 : w.heap.size + 1 < wr.heap.size := (cell2 HH.out.2.2.2).2.2.2.2
    clear K0 K1 HBa
    by_cases hlt : k < ps.length
    · have hd : decide ((k : Int) < ps.length) = true := decide_eq_true (by omega)
      obtain ⟨b, off, rfl, hbB, h1, h2⟩ := (HR.out.below (HH.out.2.1.mono hB)).at2 rfl hlt rfl
      have hbw : b < wr.heap.size := Nat.lt_of_lt_of_le hbB (Nat.le_trans hB HH.out.2.1.size)
      have HSK := Lib.hid (HST.out k hlt)
      obtain ⟨p, hp⟩ : ∃ p, p = ps[k] := ⟨_, rfl⟩
      rw [← hp] at HSK h1 h2
      clear hp
      obtain ⟨due, val⟩ := p
      simp only at h1 h2
      have HX := Lib.hid (And.intro (bel_trans HH.out.2.1 (below1 wr (.cells #[.int .i64 due, .int .i64 val] 46))) (And.intro (HH.out.1.alloc (.cells #[.int .i64 due, .int .i64 val] 46)) (And.intro (blkc HH.out.2.2.1 (below1 wr (.cells #[.int .i64 due, .int .i64 val] 46))) (blkc HH.out.2.2.2 (below1 wr (.cells #[.int .i64 due, .int .i64 val] 46))))))
      have hlen := HLN.out k
      by_cases hdue : due ≤ tick
      · have hd2 : decide (due ≤ tick) = true := decide_eq_true hdue
        have HS := Lib.hid (HSK.out.1 hdue)
        have HRW : Hid (Rd eInt ((wr.alloc (.cells #[.int .i64 due, .int .i64 val] 46)).alloc (.cells #[.int .i64 val] 3)) ((wr.alloc (.cells #[.int .i64 due, .int .i64 val] 46)).alloc (.cells #[.int .i64 val] 3)).heap.size (some ⟨wr.heap.size + 1, 0, none⟩) [val]) := by
          show Rd _ _ _ _ _
          have e : (wr.alloc (.cells #[.int .i64 due, .int .i64 val] 46)).heap.size = wr.heap.size + 1 := World.size_alloc ..
          rw [← e]
          exact Rd.new (E := eInt) (xs := [val]) _ _ _ rfl
        go_wp2_with (at_builtin; refine wpList_app _ eiInt rfl (.tmp 20) (.tmp 23) rfl (w.heap.size + 1 + 1) (HX.out.2.1.alloc _) HRW.out rfl rfl rfl (by simp only [List.length_cons, List.length_nil]; omega) (by simp; omega) ?_; intro v' w7 row hown7 hg7 hrow7)
        go_roundw
        case rel =>
          refine ⟨k + 1, by omega, by go_num, ?_, ?_, ?_, ?_⟩
          · rw [HS.out]; exact hown7
          · exact (bel_trans HX.out.1 (below1 _ _)).trans ((below_of_row hg7 (fun k hk => (hrow7 k hk).1) (by simp; omega)).mono (by omega))
          · exact (hg7.block _ (by simp; omega) (fun e => by have := (hrow7 _ e.symm).1; omega)).trans (blkc HX.out.2.2.1 (below1 _ _))
          · exact (hg7.block _ (by simp; omega) (fun e => by have := (hrow7 _ e.symm).1; omega)).trans (blkc HX.out.2.2.2 (below1 _ _))
        case measure => simp [intOf]; omega
      · have hd2 : decide (due ≤ tick) = false := decide_eq_false hdue
        have HS := Lib.hid (HSK.out.2 (by first | exact hdue | (show tick < due; omega)))
        go_wp2
        go_roundw
        case rel => exact ⟨k + 1, by omega, by go_num, by rw [HS.out]; exact HX.out.2.1, HX.out.1, HX.out.2.2.1, HX.out.2.2.2⟩
        case measure => simp [intOf]; omega
    · have hke : k = ps.length := by omega
      subst hke
      have hd : decide ((ps.length : Int) < ps.length) = false := by simp
      have hown := HH.out.1
      rw [HFIN.out] at hown
      clear HST HLN HFIN
      obtain ⟨A2, c2, hv, hc2, _⟩ := hown.form
      subst hv
      have hOl := HOL.out
      subst hOl
      have HOW := Lib.hid hown.clip
      clear hown HOL
      obtain ⟨g0, g1, _, _, _⟩ := cell2 HH.out.2.2.1
      have hi0 : (0 : Int) ≤ (O.length : Int) := by omega
      have hi1 : (O.length : Int) ≤ (ps.length : Int) := by omega
      by_cases hcn : c = O.length
      · subst hcn
        have C : Hid (∀ W, Below w.heap.size w W → Calls Try.prog 61 #[.slice A 0 0] W fun e w' => ∃ A', e = .returned (.slice A' R.length R.length) ∧ Own ePkt 46 w' W.heap.size (.slice A' R.length R.length) R ∧ Below W.heap.size W w') := fun W hW => by
          have := HC.out W hW
          rw [if_pos rfl, Nat.sub_self, show ps.length - O.length = 0 by omega] at this
          exact this
        clear HC
        go_upto_region 8 with (fail)
        go_region_held3 (fun w' => w'.cell? ⟨w.heap.size, 0, none⟩ = some (.int .i64 d) ∧ w'.cell? ⟨w.heap.size, 1, none⟩ = some (.slice A ps.length O.length)) (first | exact ⟨g0, g1⟩ | (refine ⟨?_, ?_⟩ <;> assumption) | (refine ⟨?_, ?_⟩ <;> (rw [World.cell?_setCell_other _ _ _ _ (fun e => by injection e with e1 _ _; omega), World.cell?_setCell_other _ _ _ _ (fun e => by injection e with e1 _ _; omega)]; assumption)) | go_keep)
          (first
            | (go_at_call 61; refine (C.out _ HH.out.2.1.drew).mono ?_; rintro e w1 ⟨A1, rfl, hown, hb1⟩; have hb2 : Below wr.heap.size wr w1 := Below.trans (Below.refl _ _).drew hb1; have n0 := (cell2 (blkc HH.out.2.2.1 hb2)).1; have n1 := (cell2 (blkc HH.out.2.2.1 hb2)).2.1; have K2 := Lib.hid (blkc HH.out.2.2.2 hb2); have HO := Lib.hid (hown.more (base' := w.heap.size + 1 + 1) hs1); have HO2 := Lib.hid (HOW.out.next hb2); have HB := Lib.hid (bel_trans HH.out.2.1 hb2); obtain ⟨s0, s1⟩ := res2 K2.out (.int .i64 d) (.slice A1 R.length R.length); obtain ⟨a1, a2, a3, a4, a5⟩ := cell2 K2.out)
            | (go_at_call 51; refine (callClipInt A2 O.length c2 hc2 _).mono ?_; rintro e w' ⟨rfl, rfl⟩))
        all_goals (try go_wp2)
        all_goals
          refine bodyPost_ret (v := .tuple #[.agg #[.int .i64 d, .slice A1 R.length R.length], .slice A2 O.length O.length]) (by simp [results, Try.results47, go_sem, s0, s1]) rfl ⟨A1, A2, rfl, (HO.out.kept (gset2 _ _) (fun k hk => by cases hk; omega)).more (by omega), (HO2.out.kept (gset2 _ _) (fun k hk => by cases hk; omega)).more (by omega), bset2 HB.out (by omega) _ _⟩
      · have C : Hid (∀ W, Below w.heap.size w W → Calls Try.prog 61 #[.slice (A.map (·.add (O.length * 2))) (ps.length - O.length) (c - O.length)] W fun e w' => ∃ A', e = .returned (.slice A' R.length R.length) ∧ Own ePkt 46 w' W.heap.size (.slice A' R.length R.length) R ∧ Below W.heap.size W w') := fun W hW => by
          have := HC.out W hW
          rw [if_neg hcn] at this
          exact this
        clear HC
        go_upto_region 8 with (fail)
        go_region_held3 (fun w' => w'.cell? ⟨w.heap.size, 0, none⟩ = some (.int .i64 d) ∧ w'.cell? ⟨w.heap.size, 1, none⟩ = some (.slice A ps.length c)) (first | exact ⟨g0, g1⟩ | (refine ⟨?_, ?_⟩ <;> assumption) | (refine ⟨?_, ?_⟩ <;> (rw [World.cell?_setCell_other _ _ _ _ (fun e => by injection e with e1 _ _; omega), World.cell?_setCell_other _ _ _ _ (fun e => by injection e with e1 _ _; omega)]; assumption)) | go_keep)
          (first
            | (go_at_call 61; refine (C.out _ HH.out.2.1.drew).mono ?_; rintro e w1 ⟨A1, rfl, hown, hb1⟩; have hb2 : Below wr.heap.size wr w1 := Below.trans (Below.refl _ _).drew hb1; have n0 := (cell2 (blkc HH.out.2.2.1 hb2)).1; have n1 := (cell2 (blkc HH.out.2.2.1 hb2)).2.1; have K2 := Lib.hid (blkc HH.out.2.2.2 hb2); have HO := Lib.hid (hown.more (base' := w.heap.size + 1 + 1) hs1); have HO2 := Lib.hid (HOW.out.next hb2); have HB := Lib.hid (bel_trans HH.out.2.1 hb2); obtain ⟨s0, s1⟩ := res2 K2.out (.int .i64 d) (.slice A1 R.length R.length); obtain ⟨a1, a2, a3, a4, a5⟩ := cell2 K2.out)
            | (go_at_call 51; refine (callClipInt A2 O.length c2 hc2 _).mono ?_; rintro e w' ⟨rfl, rfl⟩))
        all_goals (try go_wp2)
        all_goals
          refine bodyPost_ret (v := .tuple #[.agg #[.int .i64 d, .slice A1 R.length R.length], .slice A2 O.length O.length]) (by simp [results, Try.results47, go_sem, s0, s1]) rfl ⟨A1, A2, rfl, (HO.out.kept (gset2 _ _) (fun k hk => by cases hk; omega)).more (by omega), (HO2.out.kept (gset2 _ _) (fun k hk => by cases hk; omega)).more (by omega), bset2 HB.out (by omega) _ _⟩
end Go.Proofs.Ytonhkadbiepedaa
