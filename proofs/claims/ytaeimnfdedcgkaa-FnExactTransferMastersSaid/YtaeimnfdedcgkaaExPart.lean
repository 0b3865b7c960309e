/- The exact laws' helpers for partitions: for every input. -/
import Derived.Test.YtaeimnfdedcgkaaExWindow
import Derived.Test.YtaeimnfdedcgkaaPrt
namespace Go.Proofs.Ytaeimnfdedcgkaa
open Go.RowKit Go.Sort
theorem callSzPart (x : Prt) (left : Int) (w : World) (hn : x.wins.length ≤ 9223372036854775807) (h0 : 0 ≤ left) (h1 : left ≤ 1048576) :
    Calls Try.prog 58 #[.agg #[.slice x.A x.wins.length x.c, .int .i64 x.cells], .int .i64 left] w fun e w' => e = .returned (.int .i64 (szF x.wins.length left)) ∧ Below w.heap.size w w' := by
  have HV := Lib.hid (below1 w (.cells #[.slice x.A x.wins.length x.c, .int .i64 x.cells] 77))
  have K0 := heap_alloc_new w (.cells #[.slice x.A x.wins.length x.c, .int .i64 x.cells] 77)
  obtain ⟨p0, p1, p2, p3, p4⟩ := cell2 K0
  have E : Hid (szF x.wins.length left = if (x.wins.length : Int) ≤ left then left - x.wins.length else -1) := rfl
  clear K0
  go_enter Try.func58, Try.ntmps58
  go_wp2_with fail
  refine (callSzWindowS x.A x.c x.wins.length left _ hn h0 h1).mono ?_
  rintro e w1 ⟨rfl, rfl⟩
  by_cases h : (x.wins.length : Int) ≤ left
  · have E2 := Lib.hid (E.out.trans (if_pos h))
    rw [E2.out]
    have hd : decide (left - (x.wins.length : Int) < 0) = false := decide_eq_false (by omega)
    go_wp2
    go_ret
    exact ⟨by rw [E2.out] <;> rfl, HV.out⟩
  · have E2 := Lib.hid (E.out.trans (if_neg h))
    rw [E2.out]
    go_wp2
    go_ret
    exact ⟨by rw [E2.out] <;> rfl, HV.out⟩
set_option maxRecDepth 100000 in
set_option maxHeartbeats 1600000 in
theorem callSzPartS (A : Option Addr) (c : Nat) (ps : List Prt) (w : World) (B : Nat) (hB : B ≤ w.heap.size) (hn : ps.length ≤ 9223372036854775807) (hw : ∀ p, p ∈ ps → p.wins.length ≤ 9223372036854775807) (hr : Rd ePrt w B A ps) :
    Calls Try.prog 23 #[.slice A ps.length c, .int .i64 1048576] w fun e w' => ∃ r, e = .returned (.int .i64 r) ∧ r ≤ 1048576 ∧ (0 ≤ r → ps.length ≤ 1048576 ∧ ∀ p, p ∈ ps → p.wins.length ≤ 1048576) ∧ Below w.heap.size w w' := by
  have HR := Lib.hid hr
  have HW := Lib.hid hw
  have hwl : IntKind.i64.wrap (1048576 - (ps.length : Int)) = 1048576 - (ps.length : Int) := IntWalk.i64_in _ (by omega)
  clear hr hw
  by_cases h : (ps.length : Int) ≤ 1048576
  · have hd : decide (1048576 - (ps.length : Int) < 0) = false := decide_eq_false (by omega)
    go_enter Try.func23, Try.ntmps23
    go_wp2
    go_loopw [1, 5] (fun s i wr => ∃ (k : Nat) (l : Int), k ≤ ps.length ∧ i = .int .i64 k ∧ s = .int .i64 l ∧ 0 ≤ l ∧ l ≤ 1048576 ∧ Hid (Below w.heap.size w wr) ∧ Hid (∀ j (h : j < ps.length), j < k → ps[j].wins.length ≤ 1048576)) (fun _ i _ => ps.length - (intOf i).toNat)
    case atStart => exact ⟨0, _, by omega, rfl, rfl, by omega, by omega, Below.refl _ _, fun j _ hj => by omega⟩
    case round =>
      obtain ⟨k, l, hk, rfl, rfl, hl0, hl1, HB, HJ⟩ := hrel
      by_cases hlt : k < ps.length
      · have hd1 : decide ((k : Int) < (ps.length : Int)) = true := decide_eq_true (by omega)
        obtain ⟨b, off, rfl, hbB, h1, h2⟩ := (HR.out.below (HB.out.mono hB)).at2 rfl hlt rfl
        have E : Hid (szF ps[k].wins.length l = if (ps[k].wins.length : Int) ≤ l then l - ps[k].wins.length else -1) := rfl
        go_wp2_with fail
        refine (callSzPart ps[k] l wr (HW.out _ (List.getElem_mem hlt)) hl0 hl1).mono ?_
        rintro e w1 ⟨rfl, hb1⟩
        have HB1 := Lib.hid (HB.out.trans (hb1.mono HB.out.size))
        clear hb1 h1 h2 hbB
        by_cases hle : (ps[k].wins.length : Int) ≤ l
        · have E2 := Lib.hid (E.out.trans (if_pos hle))
          rw [E2.out]
          have hd2 : decide (l - (ps[k].wins.length : Int) < 0) = false := decide_eq_false (by omega)
          have hl2 : 0 ≤ l - (ps[k].wins.length : Int) ∧ l - (ps[k].wins.length : Int) ≤ 1048576 := by omega
          have hlk : ps[k].wins.length ≤ 1048576 := by omega
          obtain ⟨l2, hl2e⟩ : ∃ l2, l2 = l - (ps[k].wins.length : Int) := ⟨_, rfl⟩
          rw [← hl2e] at hd2 hl2 ⊢
          clear hl2e E E2
          go_wp2
          go_roundw
          case rel =>
            refine ⟨k + 1, l2, by omega, by go_num, rfl, hl2.1, hl2.2, HB1.out, fun j hj hjk => ?_⟩
            by_cases e : j = k
            · subst e; exact hlk
            · exact HJ.out j hj (by omega)
          case measure => simp [intOf]; omega
        · have E2 := Lib.hid (E.out.trans (if_neg hle))
          rw [E2.out]
          go_wp2
          go_ret
          exact ⟨-1, rfl, by omega, fun h => by omega, HB1.out⟩
      · have hke : k = ps.length := by omega
        have hd1 : decide ((k : Int) < (ps.length : Int)) = false := decide_eq_false (by omega)
        have HALL : Hid (∀ p, p ∈ ps → p.wins.length ≤ 1048576) := fun p hp => by
          obtain ⟨j, hj, rfl⟩ := List.getElem_of_mem hp
          exact HJ.out j hj (by omega)
        clear hke
        go_wp2
        go_ret
        exact ⟨l, rfl, hl1, fun _ => ⟨by omega, HALL.out⟩, HB.out⟩
  · have hd : decide (1048576 - (ps.length : Int) < 0) = true := decide_eq_true (by omega)
    go_enter Try.func23, Try.ntmps23
    go_wp2
    go_ret
    exact ⟨-1, rfl, by omega, fun h => by omega, Below.refl _ _⟩
set_option maxRecDepth 100000 in
set_option maxHeartbeats 1600000 in
theorem callToPart (x : Prt) (w : World) (B : Nat) (hB : B ≤ w.heap.size) (hm : x.wins.length ≤ 1048576) (hr : Rd eWin w B x.A x.wins) :
    Calls Try.prog 59 #[.agg #[.slice x.A x.wins.length x.c, .int .i64 x.cells]] w fun e w' =>
      ∃ A', e = .returned (.agg #[.slice A' x.wins.length x.wins.length, .int .i64 x.cells]) ∧ Own eWin 39 w' w.heap.size (.slice A' x.wins.length x.wins.length) x.wins ∧ Below w.heap.size w w' := by
  have HV := Lib.hid (below2 w (.cells #[.slice x.A x.wins.length x.c, .int .i64 x.cells] 77) (.cells #[.slice none 0 0, .int .i64 0] 37))
  have K0 := Lib.hid (alloc_at0 w (.cells #[.slice x.A x.wins.length x.c, .int .i64 x.cells] 77) (.cells #[.slice none 0 0, .int .i64 0] 37))
  have K1 := Lib.hid (alloc_at1 w (.cells #[.slice x.A x.wins.length x.c, .int .i64 x.cells] 77) (.cells #[.slice none 0 0, .int .i64 0] 37))
  have hsz : ((w.alloc (.cells #[.slice x.A x.wins.length x.c, .int .i64 x.cells] 77)).alloc (.cells #[.slice none 0 0, .int .i64 0] 37)).heap.size = w.heap.size + 2 := by simp
  have HR := Lib.hid hr
  clear hr
  go_enter Try.func59, Try.ntmps59
  go_upto_region 1 with (fail)
  obtain ⟨u, hu⟩ : ∃ u, u = ((w.alloc (.cells #[.slice x.A x.wins.length x.c, .int .i64 x.cells] 77)).alloc (.cells #[.slice none 0 0, .int .i64 0] 37)) := ⟨_, rfl⟩
  rw [← hu] at HV K0 K1 hsz ⊢
  clear hu
  have HV2 := Lib.hid (bel_trans HV.out (below1 u (.cells #[.slice none 0 0, .int .i64 0] 37)))
  have P0 := Lib.hid (blkc K0.out (below1 u (.cells #[.slice none 0 0, .int .i64 0] 37)))
  have R0 := Lib.hid (blkc K1.out (below1 u (.cells #[.slice none 0 0, .int .i64 0] 37)))
  have O0 : Hid ((u.alloc (.cells #[.slice none 0 0, .int .i64 0] 37)).heap[w.heap.size + 2]? = some (.cells #[.slice none 0 0, .int .i64 0] 37 (0, 0))) := by have h := heap_alloc_new u (.cells #[.slice none 0 0, .int .i64 0] 37); rw [hsz] at h; exact h
  go_upto_region 2 with (fail)
  obtain ⟨v, hv⟩ : ∃ v, v = u.alloc (.cells #[.slice none 0 0, .int .i64 0] 37) := ⟨_, rfl⟩
  rw [← hv] at HV2 P0 R0 O0 ⊢
  clear hv hsz K0 K1 HV
  obtain ⟨p0, p1, p2, p3, p4⟩ := cell2 P0.out
  go_wp2_with fail
  refine (callToWindowS x.A x.c x.wins v B (by have := HV2.out.size; omega) hm (HR.out.below (HV2.out.mono hB))).mono ?_
  obtain ⟨A', hA'⟩ : ∃ A', A' = some (⟨v.heap.size, 0, none⟩ : Addr) := ⟨_, rfl⟩
  rw [← hA']
  rintro e w1 ⟨rfl, ho, hb⟩
  have HO := Lib.hid (ho.more (base' := w.heap.size + 3) (by have := (cell2 O0.out).2.2.2.2; omega))
  have HB1 := Lib.hid (bel_trans HV2.out hb)
  have P1 := Lib.hid (blkc P0.out hb)
  have R1 := Lib.hid (blkc R0.out hb)
  have O1 := Lib.hid (blkc O0.out hb)
  clear ho hb hA' p0 p1 p2 p3 p4 P0 R0 O0 HV2 HR
  have O2 := Lib.hid (set2a (u := .slice A' x.wins.length x.wins.length) O1.out)
  have P2 := Lib.hid (gblk (gset (w := w1) (g := w.heap.size + 2) 0 (.slice A' x.wins.length x.wins.length)) P1.out (by simp))
  have O3 := Lib.hid (set2b (u := .int .i64 x.cells) O2.out)
  have R3 := Lib.hid (gblk (gset (g := w.heap.size + 2) 1 (.int .i64 x.cells)) (gblk (gset (w := w1) (g := w.heap.size + 2) 0 (.slice A' x.wins.length x.wins.length)) R1.out (by simp)) (by simp))
  have HB3 := Lib.hid ((HB1.out.setCell (p := ⟨w.heap.size + 2, 0, none⟩) (by show _ ≤ w.heap.size + 2; omega) (.slice A' x.wins.length x.wins.length)).setCell (p := ⟨w.heap.size + 2, 1, none⟩) (by show _ ≤ w.heap.size + 2; omega) (.int .i64 x.cells))
  have HB4 := Lib.hid (bset2 (b := w.heap.size + 1) HB3.out (by omega) (.slice A' x.wins.length x.wins.length) (.int .i64 x.cells))
  have HO4 := Lib.hid ((HO.out.kept (gset2 (g := w.heap.size + 2) (.slice A' x.wins.length x.wins.length) (.int .i64 x.cells)) (fun k hk => by cases hk; omega)).kept (gset2 (g := w.heap.size + 1) (.slice A' x.wins.length x.wins.length) (.int .i64 x.cells)) (fun k hk => by cases hk; omega))
  obtain ⟨f0, f1⟩ := res2 R3.out (.slice A' x.wins.length x.wins.length) (.int .i64 x.cells)
  obtain ⟨p0, p1, p2, p3, p4⟩ := cell2 P2.out
  obtain ⟨n0, n1, n2, n3, n4⟩ := cell2 O1.out
  obtain ⟨o0, o1, o2, o3, o4⟩ := cell2 O2.out
  obtain ⟨q0, q1, q2, q3, q4⟩ := cell2 O3.out
  obtain ⟨r0, r1, r2, r3, r4⟩ := cell2 R3.out
  go_wp2_with fail
  exact bodyPost_ret (v := .agg #[.slice A' x.wins.length x.wins.length, .int .i64 x.cells]) (by simp [results, Try.results59, go_sem, f0, f1]) rfl ⟨A', rfl, HO4.out.more (by omega), HB4.out⟩
/-- The copy that toPartS fills: the row first, then the windows of each. -/
structure PL (w : World) (k : Nat) (ps qs : List Prt) (wx : World) : Prop where
  bel : Below w.heap.size w wx
  own : Own ePrt 37 wx w.heap.size (.slice (some ⟨w.heap.size, 0, none⟩) ps.length ps.length) qs
  rows : ∀ q, q ∈ qs → Own eWin 39 wx (w.heap.size + 1) (.slice q.A q.wins.length q.c) q.wins
  len : qs.length = ps.length
  same : ∀ i (h : i < qs.length) (h' : i < ps.length), i < k → qs[i].wins = ps[i].wins ∧ qs[i].cells = ps[i].cells
theorem PL.keep {w wx w' : World} {k : Nat} {ps qs : List Prt} (s : PL w k ps qs wx) (hb : Below wx.heap.size wx w') : PL w k ps qs w' :=
  ⟨bel_trans s.bel hb, s.own.next hb, fun q hq => (s.rows q hq).next hb, s.len, s.same⟩
theorem PL.put {w wx : World} {k : Nat} {ps qs : List Prt} (s : PL w k ps qs wx) (hk : k < ps.length) {y : Prt} (ho : Own eWin 39 wx (w.heap.size + 1) (.slice y.A y.wins.length y.c) y.wins) (h1 : y.wins = ps[k].wins) (h2 : y.cells = ps[k].cells) :
    PL w (k + 1) ps (qs.set k y) ((wx.setCell ⟨w.heap.size, k * 2, none⟩ (.slice y.A y.wins.length y.c)).setCell ⟨w.heap.size, k * 2 + 1, none⟩ (.int .i64 y.cells)) := by
  have hku : k < qs.length := by have := s.len; omega
  have G : wx.grownBy ((wx.setCell ⟨w.heap.size, k * 2, none⟩ (.slice y.A y.wins.length y.c)).setCell ⟨w.heap.size, k * 2 + 1, none⟩ (.int .i64 y.cells)) (some w.heap.size) := gtrans (gset _ _) (gset _ _)
  refine ⟨(s.bel.setCell (p := ⟨w.heap.size, k * 2, none⟩) (Nat.le_refl _) _).setCell (p := ⟨w.heap.size, k * 2 + 1, none⟩) (Nat.le_refl _) _,
    s.own.set2 rfl (List.getElem?_eq_getElem hku) (x1 := ⟨y.A, y.c, y.wins, qs[k].cells⟩) (y := y) rfl rfl, fun q hq => ?_, by rw [List.length_set]; exact s.len, fun i h h' hi => ?_⟩
  · rcases List.mem_or_eq_of_mem_set hq with hq | rfl
    · exact (s.rows q hq).kept G (fun j hj => by cases hj; omega)
    · exact ho.kept G (fun j hj => by cases hj; omega)
  · rw [List.length_set] at h
    by_cases e : i = k
    · subst e; rw [List.getElem_set_self]; exact ⟨h1, h2⟩
    · rw [List.getElem_set_ne (fun e' => e e'.symm)]; exact s.same i h h' (by omega)
/-- Two lists of partitions of the same content. -/
def SameP (qs ps : List Prt) : Prop := qs.length = ps.length ∧ ∀ i (h : i < qs.length) (h' : i < ps.length), qs[i].wins = ps[i].wins ∧ qs[i].cells = ps[i].cells
theorem PL.done {w wx : World} {k : Nat} {ps qs : List Prt} (s : PL w k ps qs wx) (hk : ps.length ≤ k) : SameP qs ps := ⟨s.len, fun i h h' => s.same i h h' (by omega)⟩
/-- What toPartS leaves. -/
def ToP (w : World) (ps : List Prt) (e : Ending) (w' : World) : Prop :=
  e = .returned (.slice (some ⟨w.heap.size, 0, none⟩) ps.length ps.length) ∧ ∃ qs, PL w ps.length ps qs w' ∧ SameP qs ps
set_option maxRecDepth 100000 in
set_option maxHeartbeats 1600000 in
theorem callToPartS (A : Option Addr) (c : Nat) (ps : List Prt) (w : World) (B : Nat) (hB : B ≤ w.heap.size) (hm : ps.length ≤ 1048576) (hr : RdP w B A ps) :
    Calls Try.prog 24 #[.slice A ps.length c] w (ToP w ps) := by
  have HR := Lib.hid hr
  clear hr
  go_enter Try.func24, Try.ntmps24
  go_wp2_with (at_make; refine wpList_mkE (E := ePrt) _ Try.underlying32 (z := .agg #[.slice none 0 0, .int .i64 0]) (m := 32) (by kernel_rfl) (by decide) (⟨none, 0, [], 0⟩ : Prt) rfl rfl _ _ rfl w.heap.size ps.length ps.length ps.length rfl rfl rfl rfl (by omega) (Nat.le_refl _) ?_; intro w1 hown1 hb1)
  have S1 : Hid (PL w 0 ps (List.replicate ps.length ⟨none, 0, [], 0⟩) w1) := ⟨hb1, hown1, fun q hq => by rw [List.eq_of_mem_replicate hq]; exact Own.none_, by simp, fun i _ _ hi => by omega⟩
  clear hown1 hb1
  go_loopw [4] (fun i wr => ∃ (k : Nat) (qs : List Prt), i = .int .i64 k ∧ k ≤ ps.length ∧ Hid (PL w k ps qs wr)) (fun i _ => ps.length - (intOf i).toNat)
  case atStart => exact ⟨0, _, rfl, by omega, S1.out⟩
  case round =>
    clear S1
    obtain ⟨k, qs, rfl, hk, SR⟩ := hrel
    by_cases hlt : k < ps.length
    · have hd : decide ((k : Int) < (ps.length : Int)) = true := decide_eq_true (by omega)
      have HRr := HR.out.below (SR.out.bel.mono hB)
      obtain ⟨b, off, rfl, hbB, h1, h2⟩ := HRr.1.at2 rfl hlt rfl
      have HW := Lib.hid (HRr.2 _ (List.getElem_mem hlt))
      obtain ⟨X, hX⟩ : ∃ X, X = ps[k] := ⟨_, rfl⟩
      have HX := Lib.hid hX
      rw [← hX] at h1 h2 HW
      clear hX HRr
      have hku : k < qs.length := by have := SR.out.len; omega
      have hwr : w.heap.size + 1 ≤ wr.heap.size := (SR.out.own.cellsAt hku).2.1
      have hBr : B ≤ wr.heap.size := by omega
      go_wp2_with fail
      refine (callToPart X wr B hBr HW.out.2 HW.out.1).mono ?_
      rintro e w5 ⟨A5, rfl, ho5, hb5⟩
      have S5 := Lib.hid (SR.out.keep hb5)
      obtain ⟨_, hb6, hwx⟩ := S5.out.own.cellsAt hku
      obtain ⟨⟨c0, hc0⟩, hf0⟩ := hwx 0 (by decide)
      obtain ⟨⟨c1, hc1⟩, hf1⟩ := hwx 1 (by decide)
      simp only [Nat.add_zero] at hc0 hf0 hc1 hf1
      have S6 := Lib.hid (S5.out.put hlt (y := ⟨A5, X.wins.length, X.wins, X.cells⟩) (ho5.more hwr) (by rw [HX.out]) (by rw [HX.out]))
      clear hb5 hwx ho5 h1 h2 hbB SR
      go_wp2_with fail
      go_roundw
      case rel => exact ⟨k + 1, qs.set k ⟨A5, X.wins.length, X.wins, X.cells⟩, by go_num, by omega, S6.out⟩
      case measure => simp [intOf]; omega
    · have hke : k = ps.length := by omega
      have hd : decide ((k : Int) < (ps.length : Int)) = false := decide_eq_false (by omega)
      subst hke
      go_wp2
      go_ret
      exact ⟨rfl, qs, SR.out, SR.out.done (Nat.le_refl _)⟩
set_option maxRecDepth 100000 in
set_option maxHeartbeats 1600000 in
theorem callEqPartT (x y : Prt) (w : World) (B : Nat) (hB : B ≤ w.heap.size) (hm : x.wins.length ≤ 1048576) (h1 : y.wins = x.wins) (h2 : y.cells = x.cells) (hr : Rd eWin w B x.A x.wins) (hr' : Rd eWin w B y.A y.wins) :
    Calls Try.prog 60 #[.agg #[.slice x.A x.wins.length x.c, .int .i64 x.cells], .agg #[.slice y.A y.wins.length y.c, .int .i64 y.cells]] w fun e w' => e = .returned (.bool true) ∧ Below w.heap.size w w' := by
  obtain ⟨A', c', ws, cc⟩ := y
  simp only at h1 h2 hr' ⊢
  subst h1; subst h2
  have HV := Lib.hid (below2 w (.cells #[.slice x.A x.wins.length x.c, .int .i64 x.cells] 37) (.cells #[.slice A' x.wins.length c', .int .i64 x.cells] 37))
  have K0 := Lib.hid (alloc_at0 w (.cells #[.slice x.A x.wins.length x.c, .int .i64 x.cells] 37) (.cells #[.slice A' x.wins.length c', .int .i64 x.cells] 37))
  have K1 := Lib.hid (alloc_at1 w (.cells #[.slice x.A x.wins.length x.c, .int .i64 x.cells] 37) (.cells #[.slice A' x.wins.length c', .int .i64 x.cells] 37))
  have HR := Lib.hid (hr.below (HV.out.mono hB))
  have HR' := Lib.hid (hr'.below (HV.out.mono hB))
  have e1 : (x.cells != x.cells) = false := by simp
  clear hr hr'
  go_enter Try.func60, Try.ntmps60
  go_upto_region 1 with (fail)
  obtain ⟨u, hu⟩ : ∃ u, u = ((w.alloc (.cells #[.slice x.A x.wins.length x.c, .int .i64 x.cells] 37)).alloc (.cells #[.slice A' x.wins.length c', .int .i64 x.cells] 37)) := ⟨_, rfl⟩
  rw [← hu] at HV K0 K1 HR HR' ⊢
  clear hu
  obtain ⟨p0, p1, _, _, _⟩ := cell2 K0.out
  obtain ⟨q0, q1, _, _, _⟩ := cell2 K1.out
  go_wp2_with fail
  refine (callEqWindowST x.A A' x.c c' x.wins u B (Nat.le_trans hB HV.out.size) hm HR.out HR'.out).mono ?_
  rintro e w1 ⟨rfl, hb1⟩
  have HB1 := Lib.hid (bel_trans HV.out hb1)
  obtain ⟨r0, r1, _, _, _⟩ := cell2 (blkc K0.out hb1)
  obtain ⟨s0, s1, _, _, _⟩ := cell2 (blkc K1.out hb1)
  clear hb1 p0 p1 q0 q1
  go_wp2
  go_ret
  exact ⟨rfl, HB1.out⟩
set_option maxRecDepth 100000 in
set_option maxHeartbeats 1600000 in
theorem callEqPartST (A A' : Option Addr) (c c' : Nat) (ps qs : List Prt) (w : World) (B : Nat) (hB : B ≤ w.heap.size) (hm : ps.length ≤ 1048576) (hs : SameP qs ps) (hr : RdP w B A ps) (hr' : RdP w B A' qs) :
    Calls Try.prog 25 #[.slice A ps.length c, .slice A' qs.length c'] w fun e w' => e = .returned (.bool true) ∧ Below w.heap.size w w' := by
  have HR := Lib.hid hr
  have HR' := Lib.hid hr'
  have HS := Lib.hid hs
  have HL := Lib.hid hs.1
  have hd0 : ((ps.length : Int) != (qs.length : Int)) = false := by rw [HL.out]; simp
  clear hr hr' hs
  go_enter Try.func25, Try.ntmps25
  go_wp2
  go_loopw [5] (fun i wr => ∃ k : Nat, k ≤ ps.length ∧ i = .int .i64 k ∧ Hid (Below w.heap.size w wr)) (fun i _ => ps.length - (intOf i).toNat)
  case atStart => exact ⟨0, by omega, rfl, Below.refl _ _⟩
  case round =>
    obtain ⟨k, hk, rfl, HB⟩ := hrel
    by_cases hlt : k < ps.length
    · have hlt' : k < qs.length := by have := HL.out; omega
      have hd : decide ((k : Int) < (ps.length : Int)) = true := decide_eq_true (by omega)
      have hd' : decide ((k : Int) < (qs.length : Int)) = true := decide_eq_true (by omega)
      have HRr := HR.out.below (HB.out.mono hB)
      have HRr' := HR'.out.below (HB.out.mono hB)
      obtain ⟨b, off, rfl, hbB, h1, h2⟩ := HRr.1.at2 rfl hlt rfl
      obtain ⟨b', off', rfl, hbB', k1, k2⟩ := HRr'.1.at2 rfl hlt' rfl
      have HW := Lib.hid (HRr.2 _ (List.getElem_mem hlt))
      have HW' := Lib.hid (HRr'.2 _ (List.getElem_mem hlt'))
      have HE := Lib.hid (HS.out.2 k hlt' hlt)
      obtain ⟨X, hX⟩ : ∃ X, X = ps[k] := ⟨_, rfl⟩
      obtain ⟨Y, hY⟩ : ∃ Y, Y = qs[k] := ⟨_, rfl⟩
      rw [← hX] at h1 h2 HW HE
      rw [← hY] at k1 k2 HW' HE
      clear hX hY HRr HRr'
      have hBr : B ≤ wr.heap.size := Nat.le_trans hB HB.out.size
      have C0 : QCall Try.prog 60 #[.agg #[.slice X.A X.wins.length X.c, .int .i64 X.cells], .agg #[.slice Y.A Y.wins.length Y.c, .int .i64 Y.cells]] wr (.bool true) := QCall.of fun W' hb =>
        callEqPartT X Y W' B (Nat.le_trans hBr hb.size) HW.out.2 HE.out.1 HE.out.2 (HW.out.1.below (hb.mono hBr)) (HW'.out.1.below (hb.mono hBr))
      unfold QCall at C0
      have r0 := cell_regrown h1
      have r1 := cell_regrown h2
      have s0 := cell_regrown k1
      have s1 := cell_regrown k2
      go_upto_region 6 with (fail)
      clear h1 h2 k1 k2
      refine wp_region_quiet_below (by kernel_rfl) (by kernel_rfl) ?_
      repeat (first | go_big_quiet_step (first | (go_at_call 60; with_reducible exact C0 _ _)) | quiet_step (first | (go_at_call 60; with_reducible exact C0 _ _)))
      refine wpQuiet_nil ?_
      intro w1 hw1
      have HB2 := Lib.hid (below_of_regrown hw1)
      clear hw1 C0 r0 r1 s0 s1
      go_wp2
      go_roundw
      case rel => exact ⟨k + 1, by omega, by go_num, HB.out.trans (HB2.out.mono HB.out.size)⟩
      case measure => simp [intOf]; omega
    · have hke : k = ps.length := by omega
      have hd : decide ((k : Int) < (ps.length : Int)) = false := decide_eq_false (by omega)
      clear hke
      go_wp2
      go_ret
      exact ⟨rfl, HB.out⟩
theorem PL.rd {w wx : World} {k : Nat} {ps qs : List Prt} (s : PL w k ps qs wx) (hw : ∀ q, q ∈ qs → q.wins.length ≤ 1048576) : RdP wx wx.heap.size (some ⟨w.heap.size, 0, none⟩) qs :=
  ⟨s.own.rd, fun q hq => ⟨(s.rows q hq).rd, hw q hq⟩⟩
theorem SameP.len {qs ps : List Prt} (h : SameP qs ps) {n : Nat} (hw : ∀ p, p ∈ ps → p.wins.length ≤ n) : ∀ q, q ∈ qs → q.wins.length ≤ n := fun q hq => by
  obtain ⟨i, hi, rfl⟩ := List.getElem_of_mem hq
  rw [(h.2 i hi (by have := h.1; omega)).1]
  exact hw _ (List.getElem_mem _)
theorem SameP.symm {qs ps : List Prt} (h : SameP qs ps) : SameP ps qs := ⟨h.1.symm, fun i h1 h2 => ⟨(h.2 i h2 h1).1.symm, (h.2 i h2 h1).2.symm⟩⟩
theorem SameP.trans {qs ps rs : List Prt} (h : SameP qs ps) (k : SameP ps rs) : SameP qs rs := ⟨h.1.trans k.1, fun i h1 h2 => by
  have h3 : i < ps.length := by have := h.1; omega
  exact ⟨(h.2 i h1 h3).1.trans (k.2 i h3 h2).1, (h.2 i h1 h3).2.trans (k.2 i h3 h2).2⟩⟩
end Go.Proofs.Ytaeimnfdedcgkaa
