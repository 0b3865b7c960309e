/- The walk of the law FnLinkTake: true for every input, and nothing that was there is written. -/
import Derived.Test.YtonhkadbiepedaaDlt
import Derived.Test.YtonhkadbiepedaaLkv
import Derived.Test.YtonhkadbiepedaaSml
import Derived.Test.YtonhkadbiepedaaSam
namespace Go.Proofs.Ytonhkadbiepedaa
open Go.RowKit Go.Sort

theorem linkTake_bad {d : Int} {ps : List Pkt} {t : Int} (h : linkOk d ps = false ∨ t < 0) : linkTake d ps t = ((0, []), []) := by
  unfold linkTake
  rcases h with h | h
  · rw [h]; rfl
  · rw [show inB t 0 100000 = false from inB_not.2 (.inl h), Bool.and_false]; rfl
theorem linkTake_good {d : Int} {ps : List Pkt} {t : Int} (h : linkOk d ps = true) (h0 : 0 ≤ t) (h1 : t ≤ 100000) : linkTake d ps t = ((d, ps.drop (cutN ps t)), (ps.take (cutN ps t)).map Pkt.value) := by
  unfold linkTake
  rw [h, inB_iff.2 ⟨h0, h1⟩]; rfl
/-- sameLink of two links that are equal. -/
theorem sameLinkT (A A' : Option Addr) (c c' : Nat) (d : Int) (xs : List Pkt) (hm : xs.length ≤ 1000) (W : World) (h1 : Rd ePkt W W.heap.size A xs) (h2 : Rd ePkt W W.heap.size A' xs) :
    Calls Try.prog 19 #[.agg #[.int .i64 d, .slice A xs.length c], .agg #[.int .i64 d, .slice A' xs.length c']] W fun e w' => e = .returned (.bool true) ∧ Below W.heap.size W w' :=
  (callSameLink A A' c c' d d xs xs W W.heap.size (Nat.le_refl _) hm hm h1 h2).mono fun e w' ⟨⟨b, he, hb⟩, h⟩ => ⟨by rw [he, hb ⟨rfl, rfl⟩], h⟩
theorem sameIntsT (A A' : Option Addr) (c c' : Nat) (xs : List Int) (hm : xs.length ≤ 10000) (W : World) (h1 : Rd eInt W W.heap.size A xs) (h2 : Rd eInt W W.heap.size A' xs) :
    Calls Try.prog 24 #[.slice A xs.length c, .slice A' xs.length c'] W fun e w' => e = .returned (.bool true) ∧ Below W.heap.size W w' := by
  have := callSameInts A A' c c' xs xs W W.heap.size (Nat.le_refl _) (by omega) (by omega) h1 h2
  rw [show decide (xs = xs) = true from decide_eq_true rfl] at this; exact this

set_option maxRecDepth 100000 in
set_option maxHeartbeats 3200000 in
theorem walkFnLinkTake (A : Option Addr) (c : Nat) (bs : List Int) (w : World) (hc : bs.length ≤ c) (hr : Rd eU8 w w.heap.size A bs) (hby : ∀ x ∈ bs, 0 ≤ x ∧ x ≤ 255) :
    Calls Try.prog 6 #[.slice A bs.length c] w fun e w' => e = .returned (.bool true) ∧ Below w.heap.size w w' := by
  by_cases hl : bs.length ≤ 1048576
  · have HC := Lib.hid (callDrawLinkTake A c bs w hc hl hr hby)
    clear hr hby
    go_enter Try.func6, Try.ntmps6
    go_wp2_with fail
    refine HC.out.mono ?_
    rintro e w1 ⟨Al, cl, d, ps, t, rfl, hrd, hcl, hll, ht0, ht1, hb1⟩
    have HB1 := Lib.hid hb1
    have HP := Lib.hid hrd
    clear hb1 HC hrd
    have HBa := Lib.hid (below1 w1 (.cells #[.int .i64 d, .slice Al ps.length cl] 36))
    have HXa := Lib.hid (heap_alloc_new w1 (.cells #[.int .i64 d, .slice Al ps.length cl] 36))
    obtain ⟨r, hr⟩ : ∃ r, r = linkTake d ps t := ⟨_, rfl⟩
    have hrl : r.1.2.length ≤ 1000 ∧ r.2.length ≤ 1000 := by
      rw [hr]; unfold linkTake
      have := cutN_le ps t
      split
      · simp only [List.length_drop, List.length_map, List.length_take]; omega
      · simp
    have T1 : Hid (∀ W, Below w1.heap.size w1 W → Calls Try.prog 20 #[.agg #[.int .i64 d, .slice Al ps.length cl], .int .i64 t] W fun e w' => ∃ A1 A2, e = .returned (.tuple #[.agg #[.int .i64 r.1.1, .slice A1 r.1.2.length r.1.2.length], .slice A2 r.2.length r.2.length]) ∧ Own ePkt 46 w' W.heap.size (.slice A1 r.1.2.length r.1.2.length) r.1.2 ∧ Own eInt 3 w' W.heap.size (.slice A2 r.2.length r.2.length) r.2 ∧ Below W.heap.size W w') := fun W hW => by
      rw [hr]
      exact callLinkTake Al cl d ps t W w1.heap.size hW.size hcl (by omega) (HP.out.below hW)
    have T2 : Hid (∀ W, Below w1.heap.size w1 W → Calls Try.prog 23 #[.agg #[.int .i64 d, .slice Al ps.length cl], .int .i64 t] W (LkRes W r)) := fun W hW => by
      rw [hr]
      exact callSLinkTake Al cl d ps t W w1.heap.size hW.size (by omega) (HP.out.below hW)
    have V : Hid (∀ W, Below w1.heap.size w1 W → Calls Try.prog 25 #[.agg #[.int .i64 d, .slice Al ps.length cl]] W fun e w' => e = .returned (.bool (linkOk d ps)) ∧ Below W.heap.size W w') := fun W hW => callSLinkValid Al cl d ps W w1.heap.size hW.size (by omega) (HP.out.below hW)
    have HR := Lib.hid hr
    clear hr
    obtain ⟨⟨dx, xs⟩, gs⟩ := r
    simp only at hrl T1
    obtain ⟨hxl, hgl⟩ := hrl
    obtain ⟨x1, x2, _, _, x3⟩ := cell2 HXa.out
    go_wp2_with fail
    refine (T1.out _ HBa.out).mono ?_
    rintro e w2 ⟨Ax, Ag, rfl, hown2, hog2, hb2⟩
    have hb2a := bel_trans hb2 (below1 w2 (.cells #[.int .i64 dx, .slice Ax xs.length xs.length] 36))
    have HB2 := Lib.hid (bel_trans HBa.out hb2a)
    have HX2 := Lib.hid (blkc HXa.out hb2a)
    have HY2 := Lib.hid (heap_alloc_new w2 (.cells #[.int .i64 dx, .slice Ax xs.length xs.length] 36))
    have HR2 := Lib.hid (hown2.alloc (.cells #[.int .i64 dx, .slice Ax xs.length xs.length] 36)).rd
    have HG2 := Lib.hid (hog2.alloc (.cells #[.int .i64 dx, .slice Ax xs.length xs.length] 36)).rd
    clear hb2 hb2a hown2 hog2 x1 x2 x3 T1
    obtain ⟨x1, x2, _, _, x3⟩ := cell2 HX2.out
    go_wp2_with fail
    refine (T2.out _ HB2.out).mono ?_
    rintro e w3 ⟨Ay, cy, Ah, ch, rfl, hown3, hc3, hog3, hch3, hb3⟩
    have hb3a := bel_trans hb3 (below1 w3 (.cells #[.int .i64 dx, .slice Ay xs.length cy] 36))
    have HB3 := Lib.hid (bel_trans HB2.out hb3a)
    have HX3 := Lib.hid (blkc HX2.out hb3a)
    have HY3 := Lib.hid (blkc HY2.out hb3a)
    have HZ3 := Lib.hid (heap_alloc_new w3 (.cells #[.int .i64 dx, .slice Ay xs.length cy] 36))
    have HR3 := Lib.hid ((HR2.out.below hb3a).mono hb3a.size)
    have HG3 := Lib.hid ((HG2.out.below hb3a).mono hb3a.size)
    have HS3 := Lib.hid (hown3.alloc (.cells #[.int .i64 dx, .slice Ay xs.length cy] 36)).rd
    have HT3 := Lib.hid (hog3.alloc (.cells #[.int .i64 dx, .slice Ay xs.length cy] 36)).rd
    clear hb3 hb3a hown3 hog3 x1 x2 x3 T2 HX2 HY2 HR2 HG2
    obtain ⟨y1, y2, _, _, y3⟩ := cell2 HY3.out
    obtain ⟨z1, z2, _, _, z3⟩ := cell2 HZ3.out
    go_wp2_with fail
    refine (sameLinkT Ax Ay xs.length cy dx xs hxl _ HR3.out HS3.out).mono ?_
    rintro e w4 ⟨rfl, hb4⟩
    have HB4 := Lib.hid (bel_trans HB3.out hb4)
    have HG4 := Lib.hid ((HG3.out.below hb4).mono hb4.size)
    have HT4 := Lib.hid ((HT3.out.below hb4).mono hb4.size)
    have HR4 := Lib.hid ((HR3.out.below hb4).mono hb4.size)
    have HX4 := Lib.hid (blkc HX3.out hb4)
    have HY4 := Lib.hid (blkc HY3.out hb4)
    clear hb4 y1 y2 y3 z1 z2 z3 HX3 HY3 HZ3 HR3 HG3 HS3 HT3
    go_wp2_with fail
    refine (sameIntsT Ag Ah gs.length ch gs (by omega) _ HG4.out HT4.out).mono ?_
    rintro e w5 ⟨rfl, hb5⟩
    have HB5 := Lib.hid (bel_trans HB4.out hb5)
    have HG5 := Lib.hid ((HG4.out.below hb5).mono hb5.size)
    have HR5 := Lib.hid ((HR4.out.below hb5).mono hb5.size)
    have HX5 := Lib.hid (blkc HX4.out hb5)
    have HY5 := Lib.hid (blkc HY4.out hb5)
    clear hb5 HX4 HY4 HR4 HG4 HT4
    obtain ⟨x1, x2, _, _, x3⟩ := cell2 HX5.out
    go_wp2_with fail
    refine (V.out _ HB5.out).mono ?_
    rintro e w6 ⟨rfl, hb6⟩
    have HB6 := Lib.hid (bel_trans HB5.out hb6)
    have HG6 := Lib.hid ((HG5.out.below hb6).mono hb6.size)
    have HR6 := Lib.hid ((HR5.out.below hb6).mono hb6.size)
    have HX6 := Lib.hid (blkc HX5.out hb6)
    have HY6 := Lib.hid (blkc HY5.out hb6)
    clear hb6 x1 x2 x3 HX5 HY5 HR5 HG5 V
    obtain ⟨y1, y2, _, _, y3⟩ := cell2 HY6.out
    by_cases hbad : linkOk d ps = false ∨ t < 0
    · have e := linkTake_bad hbad
      rw [← HR.out] at e
      injection e with e1 e2
      injection e1 with e1 e3
      subst e1 e2 e3
      have hway : ∀ (q : Bool), linkOk d ps = q → (q = false ∨ (q = true ∧ decide (t < 0) = true)) := fun q hq => by
        rcases hbad with h | h
        · rw [hq] at h; exact .inl h
        · cases q
          · exact .inl rfl
          · exact .inr ⟨rfl, decide_eq_true h⟩
      obtain ⟨q, hq⟩ : ∃ q, q = linkOk d ps := ⟨_, rfl⟩
      have hway2 := hway q hq.symm
      rw [← hq]
      clear hq hway hbad HR
      rcases hway2 with rfl | ⟨rfl, hd⟩
      all_goals
        go_wp2_with fail
        refine (sameLinkT Ax none 0 0 0 [] (by simp) _ Rd.nil Rd.nil).mono ?_
        rintro e w7 ⟨rfl, hb7⟩
        have HB7 := Lib.hid (bel_trans HB6.out hb7)
        clear hb7 y1 y2 y3
        go_wp2_with fail
        refine (callAlive _).mono ?_
        rintro e w9 ⟨rfl, hb9⟩
        go_wp2
        go_ret
        exact ⟨rfl, bel_trans HB1.out (bel_trans HB7.out hb9)⟩
    · have hq : linkOk d ps = true := by
        cases q : linkOk d ps
        · exact absurd (.inl q) hbad
        · rfl
      have htn : 0 ≤ t := by
        rcases Int.lt_or_le t 0 with h | h
        · exact absurd (.inr h) hbad
        · exact h
      have hdt : decide (t < 0) = false := decide_eq_false (by omega)
      have e := linkTake_good hq htn (by omega)
      rw [← HR.out] at e
      have hch := (linkOk_iff.1 hq).1
      have hn := cutN_le ps t
      have HLT : Hid (∀ i (hi : i < ps.length), i < cutN ps t → ps[i].due ≤ t) := fun i hi h => cutN_lt ps t i h hi
      have HAG : Hid (linkTake d (ps.drop (cutN ps t)) t = ((d, ps.drop (cutN ps t)), [])) := by
        show _ = _
        rw [linkTake_good (linkTake_ok hq _) htn (by omega), take_again hch]
        rfl
      have HOK : Hid (linkOk d (ps.drop (cutN ps t)) = true) := linkTake_ok hq _
      rw [hq]
      clear hbad hch HR hq
      obtain ⟨n, hnn⟩ : ∃ n, n = cutN ps t := ⟨_, rfl⟩
      rw [← hnn] at e hn HLT HAG HOK
      clear hnn
      injection e with e1 e2
      injection e1 with e1 e3
      subst e1
      have HXE := Lib.hid e3
      have HGE := Lib.hid e2
      have hgn : gs.length = n := by rw [e2, List.length_map, List.length_take]; omega
      have hxn : xs.length = ps.length - n := by rw [e3, List.length_drop]
      rw [← e3] at HAG HOK
      have HGN := Lib.hid hgn
      have HXN := Lib.hid hxn
      clear e2 e3 hgn hxn y1 y2 y3
      go_wp2_with fail
      go_loopw [9] (fun i wr => ∃ k : Nat, k ≤ ps.length ∧ i = .int .i64 k ∧ Hid (Below w6.heap.size w6 wr)) (fun i _ => ps.length - (intOf i).toNat)
      case atStart => exact ⟨0, by omega, rfl, Below.refl _ _⟩
      case round =>
        obtain ⟨k, hk, rfl, HB⟩ := hrel
        obtain ⟨x1, x2, _, _, x3⟩ := cell2 (blkc HX6.out HB.out)
        by_cases hlt : k < ps.length
        · have hd : decide ((k : Int) < ps.length) = true := decide_eq_true (by omega)
          have hsz : w1.heap.size ≤ wr.heap.size := Nat.le_trans HB6.out.size HB.out.size
          obtain ⟨b, off, rfl, hbB, h1, h2⟩ := (HP.out.below (bel_trans HB6.out HB.out)).at2 rfl hlt rfl
          by_cases hkn : k < gs.length
          · have hd2 : decide ((k : Int) < gs.length) = true := decide_eq_true (by omega)
            obtain ⟨b', off', rfl, hbB', h3⟩ := (HG6.out.below HB.out).at1 rfl hkn rfl
            have hv : gs[k] = ps[k].value := by
              have := HGE.out
              subst this
              rw [List.getElem_map, List.getElem_take]
            have hdue := HLT.out k hlt (by have := HGN.out; omega)
            rw [hv] at h3
            obtain ⟨p, hp⟩ : ∃ p, p = ps[k] := ⟨_, rfl⟩
            rw [← hp] at h1 h2 h3 hdue
            clear hp hv
            have hne : (p.value != p.value) = false := by simp
            have hdd : decide (t < p.due) = false := decide_eq_false (by omega)
            obtain ⟨p1, p2⟩ := p
            simp only at h1 h2 h3 hne hdd
            clear hdue
            have k1 := cell_regrown h1
            have k2 := cell_regrown h2
            have k3 := cell_regrown h3
            go_upto_region 14 with (fail)
            go_quiet (fail)
            clear h1 h2 h3 k1 k2 k3 x1 x2 x3
            go_wp2
            go_roundw
            case rel => exact ⟨k + 1, by omega, by go_num, below_drewN HB.out _⟩
            case measure => simp [intOf]; omega
          · have hd2 : decide ((k : Int) < gs.length) = false := decide_eq_false (by omega)
            have hgn := HGN.out
            have hxn := HXN.out
            obtain ⟨j, hj⟩ : ∃ j, j = k - gs.length := ⟨_, rfl⟩
            have hjl : j < xs.length := by omega
            have hw : IntKind.i64.wrap ((k : Int) - (gs.length : Int)) = (j : Int) := (IntWalk.i64_in _ (by omega)).trans (by omega)
            have hge : decide ((xs.length : Int) ≤ (j : Int)) = false := decide_eq_false (by omega)
            have hge2 : decide (xs.length ≤ j) = false := decide_eq_false (by omega)
            have hj0 : (0 : Int) ≤ (j : Int) := by omega
            have hj1 : (j : Int) < (xs.length : Int) := by omega
            have hxv : xs[j] = ps[k] := by
              have h := HXE.out
              subst h
              rw [List.getElem_drop]
              congr 1
              omega
            obtain ⟨b', off', rfl, hbB', h3, h4⟩ := (HR6.out.below HB.out).at2 rfl hjl rfl
            rw [hxv] at h3 h4
            obtain ⟨p, hp⟩ : ∃ p, p = ps[k] := ⟨_, rfl⟩
            rw [← hp] at h1 h2 h3 h4
            clear hp hxv hgn hxn hj
            obtain ⟨p1, p2⟩ := p
            simp only at h1 h2 h3 h4
            have hne1 : (p1 == p1) = true := by simp
            have hne2 : (p2 == p2) = true := by simp
            have neqs := neqPkt
            have gdp := guardPkt
            obtain ⟨y1, y2, _, _, y3⟩ := cell2 (blkc HY6.out HB.out)
            have k1 := cell_regrown h1
            have k2 := cell_regrown h2
            have k3 := cell_regrown h3
            have k4 := cell_regrown h4
            go_upto_region 16 with (fail)
            go_quiet (fail)
            clear h1 h2 h3 h4 k1 k2 k3 k4 x1 x2 x3 y1 y2 y3 hw hge hge2 neqs gdp
            go_wp2
            go_roundw
            case rel => exact ⟨k + 1, by omega, by go_num, below_drewN HB.out _⟩
            case measure => simp [intOf]; omega
        · have hke : k = ps.length := by omega
          subst hke
          have hd : decide ((ps.length : Int) < ps.length) = false := by simp
          have HRr := Lib.hid ((HR6.out.below HB.out).mono HB.out.size)
          obtain ⟨y1, y2, _, _, y3⟩ := cell2 (blkc HY6.out HB.out)
          have A2 : Hid (∀ W, Below wr.heap.size wr W → Calls Try.prog 20 #[.agg #[.int .i64 dx, .slice Ax xs.length xs.length], .int .i64 t] W fun e w' => ∃ A1 A2, e = .returned (.tuple #[.agg #[.int .i64 dx, .slice A1 xs.length xs.length], .slice A2 0 0]) ∧ Below W.heap.size W w') := fun W hW =>
            (callLinkTake Ax xs.length dx xs t W wr.heap.size hW.size (Nat.le_refl _) hxl (HRr.out.below hW)).mono (by
              rw [HAG.out]
              rintro e w' ⟨A1, A2, he, _, _, h⟩
              exact ⟨A1, A2, he, h⟩)
          have V2 : Hid (∀ W, Below wr.heap.size wr W → Calls Try.prog 21 #[.agg #[.int .i64 dx, .slice Ax xs.length xs.length]] W fun e w' => e = .returned (.bool true) ∧ Below W.heap.size W w') := fun W hW => by
            have := callLinkValid Ax xs.length dx xs W wr.heap.size hW.size (by omega) (HRr.out.below hW)
            rw [HOK.out] at this; exact this
          have HBr := Lib.hid (bel_trans HB6.out HB.out)
          go_wp2_with fail
          refine (A2.out _ (Below.refl _ _)).mono ?_
          rintro e w7 ⟨B1, B2, rfl, hb7⟩
          have hb7a := bel_trans hb7 (below1 w7 (.cells #[.int .i64 dx, .slice B1 xs.length xs.length] 36))
          have HB7 := Lib.hid hb7a
          obtain ⟨u1, u2, _, _, u3⟩ := cell2 (blkc (blkc HY6.out HB.out) hb7a)
          obtain ⟨v1, v2, _, _, v3⟩ := cell2 (blkc (blkc HX6.out HB.out) hb7a)
          have hgn := HGN.out
          have hxn := HXN.out
          have heq : ((gs.length : Int) + (xs.length : Int) == (ps.length : Int)) = true := by rw [beq_iff_eq]; omega
          have h01 : gs.length + xs.length ≤ 100000 := by omega
          have HGX := Lib.hid heq
          clear hb7 hb7a x1 x2 x3 y1 y2 y3 hgn hxn
          go_wp2_with fail
          refine (V2.out _ HB7.out).mono ?_
          rintro e w8 ⟨rfl, hb8⟩
          go_wp2
          go_ret
          exact ⟨rfl, bel_trans HB1.out (bel_trans HBr.out (bel_trans HB7.out hb8))⟩
  · have hl' : 1048576 < bs.length := by omega
    clear hr hby hl
    go_enter Try.func6, Try.ntmps6
    go_wp2
    go_ret
    exact ⟨rfl, Below.refl _ _⟩
end Go.Proofs.Ytonhkadbiepedaa
