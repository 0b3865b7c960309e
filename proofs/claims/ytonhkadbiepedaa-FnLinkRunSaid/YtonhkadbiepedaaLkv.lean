/- LinkTake of the reference, for every input. -/
import Derived.Test.YtonhkadbiepedaaLku
import Derived.Deep.RegionLaw
namespace Go.Proofs.Ytonhkadbiepedaa
open Go.RowKit Go.Sort

theorem cutN_rest {ps : List Pkt} (hc : chainB ps = true) {tick : Int} {k : Nat} (h : k < ps.length) :
    (ps[k].due ≤ tick → (ps.take (k + 1)).drop (cutN ps tick) = (ps.take k).drop (cutN ps tick)) ∧ (¬ ps[k].due ≤ tick → (ps.take (k + 1)).drop (cutN ps tick) = (ps.take k).drop (cutN ps tick) ++ [ps[k]]) := by
  constructor
  · intro hd
    have hk : k < cutN ps tick := by
      rcases Nat.lt_or_ge k (cutN ps tick) with g | g
      · exact g
      · have := cutN_ge hc g h; omega
    rw [List.drop_eq_nil_of_le (by rw [List.length_take]; omega), List.drop_eq_nil_of_le (by rw [List.length_take]; omega)]
  · intro hd
    have hk : cutN ps tick ≤ k := by
      rcases Nat.lt_or_ge k (cutN ps tick) with g | g
      · exact absurd (cutN_lt ps tick k g h) hd
      · exact g
    rw [List.take_succ_eq_append_getElem h, List.drop_append_of_le_length (by rw [List.length_take]; omega)]

/-- The loop of LinkTake: what arrived, and the packets that are still on their way in their box. -/
structure LTS (v3 : World) (z n k : Nat) (d : Int) (ps : List Pkt) (A : Option Addr) (c : Nat) (v : Value) (wr : World) : Prop where
  bel : Below z v3 wr
  out : Own eInt 3 wr (z + 1) v ((ps.take (min k n)).map Pkt.value)
  box : wr.heap[z]? = some (.cells #[.int .i64 d, .slice A ((ps.take k).drop n).length c] 36 (0, 0))
  own : Own ePkt 46 wr (z + 1) (.slice A ((ps.take k).drop n).length c) ((ps.take k).drop n)
  hc : ((ps.take k).drop n).length ≤ c
/-- What a call that takes from a link leaves: a link and a list of the call's own. -/
def LkRes (w : World) (r : (Int × List Pkt) × List Int) (e : Ending) (w' : World) : Prop :=
  ∃ A1 c1 A2 c2, e = .returned (.tuple #[.agg #[.int .i64 r.1.1, .slice A1 r.1.2.length c1], .slice A2 r.2.length c2]) ∧ Own ePkt 46 w' w.heap.size (.slice A1 r.1.2.length c1) r.1.2 ∧ r.1.2.length ≤ c1 ∧ Own eInt 3 w' w.heap.size (.slice A2 r.2.length c2) r.2 ∧ r.2.length ≤ c2 ∧ Below w.heap.size w w'
set_option maxRecDepth 100000 in
set_option maxHeartbeats 3200000 in
theorem callSLinkTake (A : Option Addr) (c : Nat) (d : Int) (ps : List Pkt) (tick : Int) (w : World) (B : Nat) (hB : B ≤ w.heap.size) (hm : ps.length ≤ 1000) (hr : Rd ePkt w B A ps) :
    Calls Try.prog 23 #[.agg #[.int .i64 d, .slice A ps.length c], .int .i64 tick] w (LkRes w (linkTake d ps tick)) := by
  have E : Hid (linkTake d ps tick = if linkOk d ps && inB tick 0 100000 then ((d, ps.drop (cutN ps tick)), (ps.take (cutN ps tick)).map Pkt.value) else ((0, []), [])) := rfl
  have S := Lib.hid (callOwnLink A c d ps ((w.alloc (.cells #[.int .i64 d, .slice A ps.length c] 36)).alloc (.cells #[.int .i64 0, .slice none 0 0] 36)) B (by simp; omega) hm (hr.below ((below2 w _ _).mono hB)))
  have K0 := Lib.hid (alloc_at0 w (.cells #[.int .i64 d, .slice A ps.length c] 36) (.cells #[.int .i64 0, .slice none 0 0] 36))
  have K1 := Lib.hid (alloc_at1 w (.cells #[.int .i64 d, .slice A ps.length c] 36) (.cells #[.int .i64 0, .slice none 0 0] 36))
  obtain ⟨r, hr2⟩ : ∃ r, r = linkTake d ps tick := ⟨_, rfl⟩
  rw [← hr2] at E ⊢
  have HSO := Lib.hid (show w.heap.size + 1 + 1 ≤ ((w.alloc (.cells #[.int .i64 d, .slice A ps.length c] 36)).alloc (.cells #[.int .i64 0, .slice none 0 0] 36)).heap.size by simp)
  clear hr hr2
  go_enter Try.func23, Try.ntmps23
  go_wp2_with fail
  refine S.out.mono ?_
  rintro e w1 ⟨A1, c1, rfl, hown1, hc1, hb1⟩
  have KB0 := Lib.hid (blkc K0.out hb1)
  have hs1 : w.heap.size + 1 < w1.heap.size := (cell2 (blkc K1.out hb1)).2.2.2.2
  have HW1 := Lib.hid (bel_trans (below2 w (.cells #[.int .i64 d, .slice A ps.length c] 36) (.cells #[.int .i64 0, .slice none 0 0] 36)) hb1)
  have HB1 := Lib.hid (balloc (bset2 HW1.out (Nat.le_refl _) (.int .i64 d) (.slice A1 ps.length c1)) (by simp; omega) (.cells #[] 3))
  have KB := Lib.hid (blkc (set2 (u := .int .i64 d) (v := .slice A1 ps.length c1) KB0.out) (below1 _ (.cells #[] 3)))
  have KR := Lib.hid (blkc (blko (blko (blkc K1.out hb1) (p := ⟨w.heap.size, 0, none⟩) (.int .i64 d) (by simp)) (p := ⟨w.heap.size, 1, none⟩) (.slice A1 ps.length c1) (by simp)) (below1 _ (.cells #[] 3)))
  have HO := Lib.hid (((hown1.more (base' := w.heap.size + 1 + 1) HSO.out).kept (gset2 (g := w.heap.size) (.int .i64 d) (.slice A1 ps.length c1)) (fun k hk => by cases hk; omega)).alloc (.cells #[] 3))
  clear hb1 hown1 S HSO HW1
  obtain ⟨p1, p2, p3, p4, p5⟩ := cell2 KB0.out
  go_upto_region 3 with (fail)
  obtain ⟨v1, hv1⟩ : ∃ v1, v1 = ((w1.setCell ⟨w.heap.size, 0, none⟩ (.int .i64 d)).setCell ⟨w.heap.size, 1, none⟩ (.slice A1 ps.length c1)).alloc (.cells #[] 3) := ⟨_, rfl⟩
  rw [← hv1] at HB1 KB KR HO ⊢
  have hs2 : w.heap.size + 1 + 1 ≤ v1.heap.size := by rw [hv1]; simp; omega
  clear hv1 p1 p2 p3 p4 p5 KB0 K0 K1
  have V : Hid (Calls Try.prog 25 #[.agg #[.int .i64 d, .slice A1 ps.length c1]] v1 fun e w' => e = .returned (.bool (linkOk d ps)) ∧ Below v1.heap.size v1 w') :=
    callSLinkValid A1 c1 d ps v1 v1.heap.size (Nat.le_refl _) (by omega) HO.out.rd
  obtain ⟨b1, b2, _, _, _⟩ := cell2 KB.out
  cases q1 : linkOk d ps
  · have e : r = ((0, []), []) := by rw [E.out, q1]; rfl
    subst e
    rw [q1] at V
    clear q1 E
    go_wp2_with fail
    refine V.out.mono ?_
    rintro e w2 ⟨rfl, hb2⟩
    have HB2 := Lib.hid (bel_trans HB1.out hb2)
    have KR2 := Lib.hid (blkc KR.out hb2)
    clear hb2 b1 b2 V HB1 KB KR HO
    obtain ⟨a1, a2, a3, a4, a5⟩ := cell2 KR2.out
    obtain ⟨s0, s1⟩ := res2 KR2.out (.int .i64 0) (.slice none 0 0)
    go_wp2
    exact bodyPost_ret (v := .tuple #[.agg #[.int .i64 0, .slice none 0 0], .slice (some ⟨w1.heap.size, 0, none⟩) 0 0]) (by simp [results, Try.results23, go_sem, s0, s1]) rfl ⟨none, 0, some ⟨w1.heap.size, 0, none⟩, 0, rfl, Own.none_, Nat.le_refl _, Own.none_, Nat.le_refl _, bset2 HB2.out (by omega) _ _⟩
  · rw [q1] at V
    go_wp2_with fail
    refine V.out.mono ?_
    rintro e w2 ⟨rfl, hb2⟩
    have HB2 := Lib.hid (bel_trans HB1.out hb2)
    have KR2 := Lib.hid (blkc KR.out hb2)
    have KB2 := Lib.hid (blkc KB.out hb2)
    have HO2 := Lib.hid (HO.out.next hb2)
    have hs3 : w.heap.size + 1 + 1 ≤ w2.heap.size := Nat.le_trans hs2 hb2.size
    clear hb2 b1 b2 V HB1 KB KR HO
    obtain ⟨a1, a2, a3, a4, a5⟩ := cell2 KR2.out
    cases q2 : inB tick 0 100000
    · have e : r = ((0, []), []) := by rw [E.out, q1, q2]; rfl
      subst e
      clear q1 E
      obtain ⟨s0, s1⟩ := res2 KR2.out (.int .i64 0) (.slice none 0 0)
      go_wp2_with (go_at_call 38; refine (callL1In _ _ _ _).mono ?_; rintro e w' ⟨rfl, rfl⟩)
      exact bodyPost_ret (v := .tuple #[.agg #[.int .i64 0, .slice none 0 0], .slice (some ⟨w1.heap.size, 0, none⟩) 0 0]) (by simp [results, Try.results23, go_sem, s0, s1]) rfl ⟨none, 0, some ⟨w1.heap.size, 0, none⟩, 0, rfl, Own.none_, Nat.le_refl _, Own.none_, Nat.le_refl _, bset2 HB2.out (by omega) _ _⟩
    · have e : r = ((d, ps.drop (cutN ps tick)), (ps.take (cutN ps tick)).map Pkt.value) := by rw [E.out, q1, q2]; rfl
      have hch := (linkOk_iff.1 q1).1
      have HST : Hid (∀ k (h : k < ps.length), (ps[k].due ≤ tick → (ps.take (min (k + 1) (cutN ps tick))).map Pkt.value = (ps.take (min k (cutN ps tick))).map Pkt.value ++ [ps[k].value]) ∧ (¬ ps[k].due ≤ tick → (ps.take (min (k + 1) (cutN ps tick))).map Pkt.value = (ps.take (min k (cutN ps tick))).map Pkt.value)) := fun k h => cutN_step hch h
      have HSR : Hid (∀ k (h : k < ps.length), (ps[k].due ≤ tick → (ps.take (k + 1)).drop (cutN ps tick) = (ps.take k).drop (cutN ps tick)) ∧ (¬ ps[k].due ≤ tick → (ps.take (k + 1)).drop (cutN ps tick) = (ps.take k).drop (cutN ps tick) ++ [ps[k]])) := fun k h => cutN_rest hch h
      have hn := cutN_le ps tick
      clear q1 E hch
      obtain ⟨n, hnn⟩ : ∃ n, n = cutN ps tick := ⟨_, rfl⟩
      rw [← hnn] at HST HSR hn e
      clear hnn
      have HE := Lib.hid e
      clear e
      obtain ⟨x1, x2, _, _, _⟩ := cell2 KB2.out
      go_upto_region 6 with (go_at_call 38; refine (callL1In _ _ _ _).mono ?_; rintro e w' ⟨rfl, rfl⟩)
      obtain ⟨v3, hv3⟩ : ∃ v3, v3 = w2.alloc (.cells #[.int .i64 d, .slice none 0 0] 36) := ⟨_, rfl⟩
      obtain ⟨z, hz⟩ : ∃ z, z = w2.heap.size := ⟨_, rfl⟩
      have HX3 := Lib.hid (heap_alloc_new w2 (.cells #[.int .i64 d, .slice none 0 0] 36))
      have HB3 := Lib.hid (bel_trans HB2.out (below1 w2 (.cells #[.int .i64 d, .slice none 0 0] 36)))
      have KB3 := Lib.hid (blkc KB2.out (below1 w2 (.cells #[.int .i64 d, .slice none 0 0] 36)))
      have KR3 := Lib.hid (blkc KR2.out (below1 w2 (.cells #[.int .i64 d, .slice none 0 0] 36)))
      have HO3 := Lib.hid (HO2.out.rd.below (below1 w2 (.cells #[.int .i64 d, .slice none 0 0] 36)))
      have hs4 : z < v3.heap.size := by rw [hv3, hz]; simp
      rw [← hz] at hs3
      rw [← hv3, ← hz] at HX3 HO3 ⊢
      rw [← hv3] at HB3 KB3 KR3
      clear hv3 hz HB2 KR2 KB2 HO2 x1 x2 a1 a2 a3 a4 a5 hs2
      go_wp2_with fail
      go_loopw [6, 8] (fun v i wr => ∃ (k : Nat) (A9 : Option Addr) (c9 : Nat), k ≤ ps.length ∧ i = .int .i64 k ∧ Hid (LTS v3 z n k d ps A9 c9 v wr)) (fun _ i _ => ps.length - (intOf i).toNat)
      case atStart => exact ⟨0, none, 0, by omega, rfl, ⟨Below.refl _ _, by rw [Nat.zero_min]; exact Own.none_, by simpa using HX3.out, by simpa using Own.none_, by simp⟩⟩
      case round =>
        obtain ⟨k, A9, c9, hk, rfl, HH⟩ := hrel
        have hwr : z < wr.heap.size := Nat.lt_of_lt_of_le hs4 (Nat.le_trans (Nat.le_refl _) HH.out.bel.size)
        have KBr := Lib.hid (blkn KB3.out HH.out.bel (by omega))
        obtain ⟨g0, g1, _, _, _⟩ := cell2 KBr.out
        by_cases hlt : k < ps.length
        · have hd : decide ((k : Int) < ps.length) = true := decide_eq_true (by omega)
          obtain ⟨b, off, rfl, hbB, h1, h2⟩ := (HO3.out.below HH.out.bel).at2 rfl hlt rfl
          have HSK := Lib.hid (HST.out k hlt)
          have HSQ := Lib.hid (HSR.out k hlt)
          obtain ⟨p, hp⟩ : ∃ p, p = ps[k] := ⟨_, rfl⟩
          rw [← hp] at HSK HSQ h1 h2
          clear hp
          obtain ⟨due, val⟩ := p
          simp only at h1 h2
          by_cases hdue : due ≤ tick
          · have hd2 : decide (due ≤ tick) = true := decide_eq_true hdue
            have HS := Lib.hid (HSK.out.1 hdue)
            have HS2 := Lib.hid (HSQ.out.1 hdue)
            have hlen : ((ps.take (min k n)).map Pkt.value).length ≤ 1000 := by rw [List.length_map, List.length_take]; omega
            go_wp2_with (at_builtin; refine wpList_app _ eiInt rfl (.tmp 40) (.tmp 47) rfl (z + 1) (HH.out.out.alloc _) (Rd.new (E := eInt) (xs := [val]) _ _ _ rfl) rfl rfl rfl (by simp only [List.length_cons, List.length_nil]; omega) (by simp; omega) ?_; intro v' w7 row hown7 hg7 hrow7)
            go_roundw
            case rel =>
              refine ⟨k + 1, A9, c9, by omega, by go_num, ?_⟩
              refine ⟨?_, ?_, ?_, ?_, ?_⟩
              · exact (HH.out.bel.trans ((below1 wr _).mono (by omega))).trans ((below_of_row hg7 (fun k hk => (hrow7 k hk).1) (by simp; omega)).mono (by omega))
              · rw [HS.out]; exact hown7
              · rw [HS2.out]; exact gblk hg7 (blkc HH.out.box (below1 _ _)) (fun e => by have := (hrow7 _ e.symm).1; omega)
              · rw [HS2.out]; exact (HH.out.own.alloc _).keptOther hg7 (fun k hk => .inr ((hrow7 k hk).2.2.elim fun cur hcur => ⟨cur, _, _, hcur, by decide⟩))
              · rw [HS2.out]; exact HH.out.hc
            case measure => simp [intOf]; omega
          · have hd2 : decide (due ≤ tick) = false := decide_eq_false hdue
            have HS := Lib.hid (HSK.out.2 (by first | exact hdue | (show tick < due; omega)))
            have HS2 := Lib.hid (HSQ.out.2 (by first | exact hdue | (show tick < due; omega)))
            have hlen : ((ps.take k).drop n).length ≤ 1000 := by rw [List.length_drop, List.length_take]; omega
            obtain ⟨L, hL⟩ : ∃ L, L = (ps.take k).drop n := ⟨_, rfl⟩
            have HBX : Hid (wr.heap[z]? = some (.cells #[.int .i64 d, .slice A9 L.length c9] 36 (0, 0))) := by rw [hL]; exact HH.out.box
            have HOX : Hid (Own ePkt 46 (wr.alloc (.cells #[.int .i64 due, .int .i64 val] 46)).drew (z + 1) (.slice A9 L.length c9) L) := by rw [hL]; exact (HH.out.own.alloc _).drew
            rw [← hL] at HS2 hlen
            clear hL
            obtain ⟨z0, z1, z2, z3, z4⟩ := cell2 HBX.out
            have hroom : Hid (L.length + [(⟨due, val⟩ : Pkt)].length ≤ 1073741824) := by show L.length + 1 ≤ _; omega
            have hbase : Hid (z + 1 ≤ (wr.alloc (.cells #[.int .i64 due, .int .i64 val] 46)).drew.heap.size) := by show z + 1 ≤ (wr.alloc (.cells #[.int .i64 due, .int .i64 val] 46)).heap.size; simp; omega
            have HBA : Hid (Below z v3 (wr.alloc (.cells #[.int .i64 due, .int .i64 val] 46)).drew) := (HH.out.bel.trans ((below1 wr _).mono (by omega))).drew
            have HUA : Hid (Own eInt 3 (wr.alloc (.cells #[.int .i64 due, .int .i64 val] 46)).drew (z + 1) u6 ((ps.take (min k n)).map Pkt.value)) := (HH.out.out.alloc _).drew
            have hBX : Hid ((wr.alloc (.cells #[.int .i64 due, .int .i64 val] 46)).drew.heap[z]? = some (.cells #[.int .i64 d, .slice A9 L.length c9] 36 (0, 0))) := blkc HBX.out (below1 wr (.cells #[.int .i64 due, .int .i64 val] 46)).drew
            obtain ⟨L2, hL2⟩ : ∃ L2, L2 = L ++ [(⟨due, val⟩ : Pkt)] := ⟨_, rfl⟩
            rw [← hL2] at HS2
            have HL2 := Lib.hid hL2
            clear hL2
            go_wp2_with fail
            go_region_law (refine step_app (n := 1) (c := 1) eiPkt rfl (.tmp 50) (.tmp 56) rfl (z + 1) HOX.out (Rd.new (E := ePkt) (xs := [⟨due, val⟩]) wr 46 #[.int .i64 due, .int .i64 val] rfl) rfl (by simp [Act.eval, Act.put]) (by simp [Act.eval, Act.put]) hroom.out hbase.out ?_; intro v' w6 row hown6' hg6 hrow6; have hown6 : Own ePkt 46 w6 (z + 1) v' L2 := (by rw [HL2.out]; exact hown6'); obtain ⟨A6, c6, hv6, hc6, _⟩ := hown6.form; subst hv6; have HQ6 := Lib.hid (gblk hg6 hBX.out (fun e => by have := (hrow6 _ e.symm).1; omega)); obtain ⟨n0, n1, n2, n3, n4⟩ := cell2 HQ6.out; have HO6 := Lib.hid hown6; have HB6 := Lib.hid (HBA.out.trans ((below_of_row hg6 (fun k hk => (hrow6 k hk).1) hbase.out).mono (by omega))); have HU6 := Lib.hid (HUA.out.keptOther hg6 (fun k hk => .inr ((hrow6 k hk).2.2.elim fun cur hcur => ⟨cur, _, _, hcur, by decide⟩))))
            all_goals
              go_wp2_with fail
              go_roundw
              case rel =>
                refine ⟨k + 1, A6, c6, by omega, by go_num, ?_⟩
                refine ⟨?_, ?_, ?_, ?_, ?_⟩
                · exact HB6.out.setCell (p := ⟨z, 1, none⟩) (Nat.le_refl z) _
                · rw [HS.out]; exact HU6.out.keptOther (gset (g := z) 1 _) (fun k hk => by cases hk; exact .inl (Nat.lt_succ_self z))
                · rw [HS2.out]; exact set2b HQ6.out
                · rw [HS2.out]; exact HO6.out.kept (gset (g := z) 1 _) (fun k hk => by cases hk; exact Nat.lt_succ_self z)
                · rw [HS2.out]; exact hc6
              case measure => simp [intOf]; omega
        · have hke : k = ps.length := by omega
          subst hke
          have hd : decide ((ps.length : Int) < ps.length) = false := by simp
          have HOU : Hid (Own eInt 3 wr (z + 1) u6 ((ps.take n).map Pkt.value)) := by have := HH.out.out; rw [Nat.min_eq_right hn] at this; exact this
          have HBX : Hid (wr.heap[z]? = some (.cells #[.int .i64 d, .slice A9 (ps.drop n).length c9] 36 (0, 0)) ∧ Own ePkt 46 wr (z + 1) (.slice A9 (ps.drop n).length c9) (ps.drop n) ∧ (ps.drop n).length ≤ c9) := by
            have h1 := HH.out.box
            have h2 := HH.out.own
            have h3 := HH.out.hc
            rw [List.take_length] at h1 h2 h3
            exact ⟨h1, h2, h3⟩
          have HBW := Lib.hid (HB3.out.trans (HH.out.bel.mono (show w.heap.size ≤ z by omega)))
          have KRr := Lib.hid (blkn KR3.out HH.out.bel (by omega))
          obtain ⟨Lp, hLp⟩ : ∃ Lp, Lp = ps.drop n := ⟨_, rfl⟩
          obtain ⟨Lo, hLo⟩ : ∃ Lo, Lo = (ps.take n).map Pkt.value := ⟨_, rfl⟩
          rw [← hLp] at HBX HE
          rw [← hLo] at HOU HE
          clear hLp hLo HST HSR
          obtain ⟨A2, c2, hv2, hc2, _⟩ := HOU.out.form
          subst hv2
          obtain ⟨z0, z1, z2, z3, z4⟩ := cell2 HBX.out.1
          obtain ⟨y0, y1, y2, y3, y4⟩ := cell2 KRr.out
          obtain ⟨s0, s1⟩ := res2 KRr.out (.int .i64 d) (.slice A9 Lp.length c9)
          go_wp2_with fail
          exact bodyPost_ret (v := .tuple #[.agg #[.int .i64 d, .slice A9 Lp.length c9], .slice A2 Lo.length c2]) (by simp [results, Try.results23, go_sem, s0, s1]) rfl (by rw [HE.out]; exact ⟨A9, c9, A2, c2, rfl, (HBX.out.2.1.kept (gset2 _ _) (fun k hk => by cases hk; omega)).more (by omega), HBX.out.2.2, (HOU.out.kept (gset2 _ _) (fun k hk => by cases hk; omega)).more (by omega), hc2, bset2 HBW.out (by omega) _ _⟩)
end Go.Proofs.Ytonhkadbiepedaa
