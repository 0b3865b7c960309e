/- The exact laws' helpers for modes: for every input. -/
import Derived.Test.YtapkgncmjinedaaExSlot
import Derived.Test.YtapkgncmjinedaaMob
namespace Go.Proofs.Ytapkgncmjinedaa
open Go.RowKit Go.Sort
set_option maxRecDepth 100000 in
set_option maxHeartbeats 1600000 in
theorem callSzSlotSS (A : Option Addr) (c : Nat) (ts : List Tab) (w : World) (B : Nat) (hB : B ≤ w.heap.size) (hn : ts.length ≤ 9223372036854775807) (hw : ∀ p, p ∈ ts → p.slots.length ≤ 9223372036854775807) (hr : Rd eTab w B A ts) :
    Calls Try.prog 81 #[.slice A ts.length c, .int .i64 1048576] w fun e w' => ∃ r, e = .returned (.int .i64 r) ∧ r ≤ 1048576 ∧ (0 ≤ r → ts.length ≤ 1048576 ∧ ∀ p, p ∈ ts → p.slots.length ≤ 1048576) ∧ Below w.heap.size w w' := by
  have HR := Lib.hid hr
  have HW := Lib.hid hw
  have hwl : IntKind.i64.wrap (1048576 - (ts.length : Int)) = 1048576 - (ts.length : Int) := IntWalk.i64_in _ (by omega)
  clear hr hw
  by_cases h : (ts.length : Int) ≤ 1048576
  · have hd : decide (1048576 - (ts.length : Int) < 0) = false := decide_eq_false (by omega)
    go_enter Try.func81, Try.ntmps81
    go_wp2
    go_loopw [1, 5] (fun s i wr => ∃ (k : Nat) (l : Int), k ≤ ts.length ∧ i = .int .i64 k ∧ s = .int .i64 l ∧ 0 ≤ l ∧ l ≤ 1048576 ∧ Hid (Below w.heap.size w wr) ∧ Hid (∀ j (h : j < ts.length), j < k → ts[j].slots.length ≤ 1048576)) (fun _ i _ => ts.length - (intOf i).toNat)
    case atStart => exact ⟨0, _, by omega, rfl, rfl, by omega, by omega, Below.refl _ _, fun j _ hj => by omega⟩
    case round =>
      obtain ⟨k, l, hk, rfl, rfl, hl0, hl1, HB, HJ⟩ := hrel
      by_cases hlt : k < ts.length
      · have hd1 : decide ((k : Int) < (ts.length : Int)) = true := decide_eq_true (by omega)
        obtain ⟨b, off, rfl, hbB, h1⟩ := (HR.out.below (HB.out.mono hB)).at1 rfl hlt rfl
        have E : Hid (szF ts[k].slots.length l = if (ts[k].slots.length : Int) ≤ l then l - ts[k].slots.length else -1) := rfl
        go_wp2_with fail
        refine (callSzSlotS ts[k].A ts[k].c ts[k].slots.length l wr (HW.out _ (List.getElem_mem hlt)) hl0 hl1).mono ?_
        rintro e w1 ⟨rfl, rfl⟩
        clear h1 hbB
        by_cases hle : (ts[k].slots.length : Int) ≤ l
        · have E2 := Lib.hid (E.out.trans (if_pos hle))
          rw [E2.out]
          have hd2 : decide (l - (ts[k].slots.length : Int) < 0) = false := decide_eq_false (by omega)
          have hl2 : 0 ≤ l - (ts[k].slots.length : Int) ∧ l - (ts[k].slots.length : Int) ≤ 1048576 := by omega
          have hlk : ts[k].slots.length ≤ 1048576 := by omega
          obtain ⟨l2, hl2e⟩ : ∃ l2, l2 = l - (ts[k].slots.length : Int) := ⟨_, rfl⟩
          rw [← hl2e] at hd2 hl2 ⊢
          clear hl2e E E2
          go_wp2
          go_roundw
          case rel =>
            refine ⟨k + 1, l2, by omega, by go_num, rfl, hl2.1, hl2.2, HB.out, fun j hj hjk => ?_⟩
            by_cases e : j = k
            · subst e; exact hlk
            · exact HJ.out j hj (by omega)
          case measure => simp [intOf]; omega
        · have E2 := Lib.hid (E.out.trans (if_neg hle))
          rw [E2.out]
          go_wp2
          go_ret
          exact ⟨-1, rfl, by omega, fun h => by omega, HB.out⟩
      · have hke : k = ts.length := by omega
        have hd1 : decide ((k : Int) < (ts.length : Int)) = false := decide_eq_false (by omega)
        have HALL : Hid (∀ p, p ∈ ts → p.slots.length ≤ 1048576) := fun p hp => by
          obtain ⟨j, hj, rfl⟩ := List.getElem_of_mem hp
          exact HJ.out j hj (by omega)
        clear hke
        go_wp2
        go_ret
        exact ⟨l, rfl, hl1, fun _ => ⟨by omega, HALL.out⟩, HB.out⟩
  · have hd : decide (1048576 - (ts.length : Int) < 0) = true := decide_eq_true (by omega)
    go_enter Try.func81, Try.ntmps81
    go_wp2
    go_ret
    exact ⟨-1, rfl, by omega, fun h => by omega, Below.refl _ _⟩
theorem callSzModes (A : Option Addr) (c : Nat) (ts : List Tab) (now next : Int) (w : World) (B : Nat) (hB : B ≤ w.heap.size) (hn : ts.length ≤ 9223372036854775807) (hw : ∀ p, p ∈ ts → p.slots.length ≤ 9223372036854775807) (hr : Rd eTab w B A ts) :
    Calls Try.prog 44 #[.agg #[.slice A ts.length c, .int .i64 now, .int .i64 next], .int .i64 1048576] w fun e w' => ∃ r, e = .returned (.int .i64 r) ∧ r ≤ 1048576 ∧ (0 ≤ r → ts.length ≤ 1048576 ∧ ∀ p, p ∈ ts → p.slots.length ≤ 1048576) ∧ Below w.heap.size w w' := by
  have HV := Lib.hid (below1 w (.cells #[.slice A ts.length c, .int .i64 now, .int .i64 next] 59))
  have K0 := heap_alloc_new w (.cells #[.slice A ts.length c, .int .i64 now, .int .i64 next] 59)
  obtain ⟨p0, p1, p2, _, _, _, _⟩ := cell3 K0
  have HC := Lib.hid (callSzSlotSS A c ts (w.alloc (.cells #[.slice A ts.length c, .int .i64 now, .int .i64 next] 59)) B (by simp; omega) hn hw (hr.below (HV.out.mono hB)))
  clear K0 hr hw
  go_enter Try.func44, Try.ntmps44
  go_wp2_with fail
  refine HC.out.mono ?_
  rintro e w1 ⟨r, rfl, hr1, hr0, hb1⟩
  have HB1 := Lib.hid (bel_trans HV.out hb1)
  have HR0 := Lib.hid hr0
  clear hb1 hr0 HC
  by_cases h : 0 ≤ r
  · have hd : decide (r < 0) = false := decide_eq_false (by omega)
    go_wp2
    go_ret
    exact ⟨r, rfl, hr1, HR0.out, HB1.out⟩
  · have hd : decide (r < 0) = true := decide_eq_true (by omega)
    go_wp2
    go_ret
    exact ⟨-1, rfl, by omega, fun h => by omega, HB1.out⟩
/-- The copy that toSlotSS fills: the row first, then the slots of each. -/
structure TL (w : World) (k : Nat) (ts us : List Tab) (wx : World) : Prop where
  bel : Below w.heap.size w wx
  own : Own eTab 33 wx w.heap.size (.slice (some ⟨w.heap.size, 0, none⟩) ts.length ts.length) us
  rows : ∀ q, q ∈ us → Own eSlt 96 wx (w.heap.size + 1) (.slice q.A q.slots.length q.c) q.slots
  len : us.length = ts.length
  same : ∀ i (h : i < us.length) (h' : i < ts.length), i < k → us[i].slots = ts[i].slots
theorem TL.keep {w wx w' : World} {k : Nat} {ts us : List Tab} (s : TL w k ts us wx) (hb : Below wx.heap.size wx w') : TL w k ts us w' :=
  ⟨bel_trans s.bel hb, s.own.next hb, fun q hq => (s.rows q hq).next hb, s.len, s.same⟩
theorem TL.put {w wx : World} {k : Nat} {ts us : List Tab} (s : TL w k ts us wx) (hk : k < ts.length) {y : Tab} (ho : Own eSlt 96 wx (w.heap.size + 1) (.slice y.A y.slots.length y.c) y.slots) (h1 : y.slots = ts[k].slots) :
    TL w (k + 1) ts (us.set k y) (wx.setCell ⟨w.heap.size, k, none⟩ (.slice y.A y.slots.length y.c)) := by
  have hku : k < us.length := by have := s.len; omega
  have G := gset (w := wx) (g := w.heap.size) k (.slice y.A y.slots.length y.c)
  have h3 := s.own.set (i := k) (j := 0) (x := us[k]) (y := y) (u := .slice y.A y.slots.length y.c) (List.getElem?_eq_getElem hku) (by decide) rfl
  refine ⟨s.bel.setCell (p := ⟨w.heap.size, k, none⟩) (Nat.le_refl _) _, by simpa using h3, fun q hq => ?_, by rw [List.length_set]; exact s.len, fun i h h' hi => ?_⟩
  · rcases List.mem_or_eq_of_mem_set hq with hq | rfl
    · exact (s.rows q hq).kept G (fun j hj => by cases hj; omega)
    · exact ho.kept G (fun j hj => by cases hj; omega)
  · rw [List.length_set] at h
    by_cases e : i = k
    · subst e; rw [List.getElem_set_self]; exact h1
    · rw [List.getElem_set_ne (fun e' => e e'.symm)]; exact s.same i h h' (by omega)
theorem TL.map {w wx : World} {k : Nat} {ts us : List Tab} (s : TL w k ts us wx) (hk : ts.length ≤ k) : us.map Tab.slots = ts.map Tab.slots := by
  refine List.ext_getElem (by simpa using s.len) fun i h1 h2 => ?_
  rw [List.getElem_map, List.getElem_map]
  have h3 : i < us.length := by simpa using h1
  have h4 : i < ts.length := by simpa using h2
  exact s.same i h3 h4 (by omega)
set_option maxRecDepth 100000 in
set_option maxHeartbeats 1600000 in
theorem callToSlotSS (A : Option Addr) (c : Nat) (ts : List Tab) (w : World) (B : Nat) (hB : B ≤ w.heap.size) (hm : ts.length ≤ 1048576) (hr : RdT w B A ts) :
    Calls Try.prog 82 #[.slice A ts.length c] w fun e w' => e = .returned (.slice (some ⟨w.heap.size, 0, none⟩) ts.length ts.length) ∧ ∃ us, TL w ts.length ts us w' := by
  have HR := Lib.hid hr
  clear hr
  go_enter Try.func82, Try.ntmps82
  go_wp2_with (at_make; refine wpList_mkE (E := eTab) _ Try.underlying23 (z := .slice none 0 0) (m := 24) (by kernel_rfl) (by decide) (⟨none, 0, []⟩ : Tab) rfl rfl _ _ rfl w.heap.size ts.length ts.length ts.length rfl rfl rfl rfl (by omega) (Nat.le_refl _) ?_; intro w1 hown1 hb1)
  have S1 : Hid (TL w 0 ts (List.replicate ts.length ⟨none, 0, []⟩) w1) := ⟨hb1, hown1, fun q hq => by rw [List.eq_of_mem_replicate hq]; exact Own.none_, by simp, fun i _ _ hi => by omega⟩
  clear hown1 hb1
  go_loopw [4] (fun i wr => ∃ (k : Nat) (us : List Tab), i = .int .i64 k ∧ k ≤ ts.length ∧ Hid (TL w k ts us wr)) (fun i _ => ts.length - (intOf i).toNat)
  case atStart => exact ⟨0, _, rfl, by omega, S1.out⟩
  case round =>
    clear S1
    obtain ⟨k, us, rfl, hk, SR⟩ := hrel
    by_cases hlt : k < ts.length
    · have hd : decide ((k : Int) < (ts.length : Int)) = true := decide_eq_true (by omega)
      have HRr := HR.out.below (SR.out.bel.mono hB)
      obtain ⟨b, off, rfl, hbB, h1⟩ := HRr.1.at1 rfl hlt rfl
      have HW := Lib.hid (HRr.2 _ (List.getElem_mem hlt))
      obtain ⟨X, hX⟩ : ∃ X, X = ts[k] := ⟨_, rfl⟩
      have HX := Lib.hid hX
      rw [← hX] at h1 HW
      clear hX HRr
      have hku : k < us.length := by have := SR.out.len; omega
      have hwr : w.heap.size + 1 ≤ wr.heap.size := (SR.out.own.cellsAt hku).2.1
      have hBr : B ≤ wr.heap.size := by omega
      obtain ⟨A5, hA5⟩ : ∃ A5, A5 = some (⟨wr.heap.size, 0, none⟩ : Addr) := ⟨_, rfl⟩
      have HC := callToSlotS X.A X.c X.slots wr B hBr HW.out.2 HW.out.1
      rw [← hA5] at HC
      have HCC := Lib.hid HC
      clear HC hA5
      go_wp2_with fail
      refine HCC.out.mono ?_
      rintro e w5 ⟨rfl, ho5, hb5⟩
      have S5 := Lib.hid (SR.out.keep hb5)
      obtain ⟨_, hb6, hwx⟩ := S5.out.own.cellsAt hku
      obtain ⟨⟨c0, hc0⟩, hf0⟩ := hwx 0 (by decide)
      simp only [Nat.mul_one, Nat.add_zero] at hc0 hf0
      have S6 := Lib.hid (S5.out.put hlt (y := ⟨A5, X.slots.length, X.slots⟩) (ho5.more hwr) (by rw [HX.out]))
      clear hb5 hwx ho5 h1 hbB SR HCC
      go_wp2_with fail
      go_roundw
      case rel => exact ⟨k + 1, us.set k ⟨A5, X.slots.length, X.slots⟩, by go_num, by omega, S6.out⟩
      case measure => simp [intOf]; omega
    · have hke : k = ts.length := by omega
      have hd : decide ((k : Int) < (ts.length : Int)) = false := decide_eq_false (by omega)
      subst hke
      go_wp2
      go_ret
      exact ⟨rfl, us, SR.out⟩
/-- What toModes leaves: the row in block b, the slots behind it. -/
def ToM (w : World) (ts : List Tab) (now next : Int) (e : Ending) (w' : World) : Prop :=
  ∃ b us, e = .returned (.agg #[.slice (some ⟨b, 0, none⟩) ts.length ts.length, .int .i64 now, .int .i64 next]) ∧ w.heap.size ≤ b ∧ Own eTab 33 w' w.heap.size (.slice (some ⟨b, 0, none⟩) ts.length ts.length) us ∧ (∀ q, q ∈ us → Own eSlt 96 w' (b + 1) (.slice q.A q.slots.length q.c) q.slots) ∧ us.map Tab.slots = ts.map Tab.slots ∧ Below w.heap.size w w'
set_option maxRecDepth 100000 in
set_option maxHeartbeats 1600000 in
theorem callToModes (A : Option Addr) (c : Nat) (ts : List Tab) (now next : Int) (w : World) (B : Nat) (hB : B ≤ w.heap.size) (hm : ts.length ≤ 1048576) (hr : RdT w B A ts) :
    Calls Try.prog 45 #[.agg #[.slice A ts.length c, .int .i64 now, .int .i64 next]] w (ToM w ts now next) := by
  have HV := Lib.hid (below2 w (.cells #[.slice A ts.length c, .int .i64 now, .int .i64 next] 59) (.cells #[.slice none 0 0, .int .i64 0, .int .i64 0] 25))
  have K0 := Lib.hid (alloc_at0 w (.cells #[.slice A ts.length c, .int .i64 now, .int .i64 next] 59) (.cells #[.slice none 0 0, .int .i64 0, .int .i64 0] 25))
  have K1 := Lib.hid (alloc_at1 w (.cells #[.slice A ts.length c, .int .i64 now, .int .i64 next] 59) (.cells #[.slice none 0 0, .int .i64 0, .int .i64 0] 25))
  have hsz : ((w.alloc (.cells #[.slice A ts.length c, .int .i64 now, .int .i64 next] 59)).alloc (.cells #[.slice none 0 0, .int .i64 0, .int .i64 0] 25)).heap.size = w.heap.size + 2 := by simp
  have HR := Lib.hid hr
  clear hr
  go_enter Try.func45, Try.ntmps45
  go_upto_region 1 with (fail)
  obtain ⟨u, hu⟩ : ∃ u, u = ((w.alloc (.cells #[.slice A ts.length c, .int .i64 now, .int .i64 next] 59)).alloc (.cells #[.slice none 0 0, .int .i64 0, .int .i64 0] 25)) := ⟨_, rfl⟩
  rw [← hu] at HV K0 K1 hsz ⊢
  clear hu
  have HV2 := Lib.hid (bel_trans HV.out (below1 u (.cells #[.slice none 0 0, .int .i64 0, .int .i64 0] 25)))
  have P0 := Lib.hid (blkc K0.out (below1 u (.cells #[.slice none 0 0, .int .i64 0, .int .i64 0] 25)))
  have R0 := Lib.hid (blkc K1.out (below1 u (.cells #[.slice none 0 0, .int .i64 0, .int .i64 0] 25)))
  have O0 : Hid ((u.alloc (.cells #[.slice none 0 0, .int .i64 0, .int .i64 0] 25)).heap[w.heap.size + 2]? = some (.cells #[.slice none 0 0, .int .i64 0, .int .i64 0] 25 (0, 0))) := by have h := heap_alloc_new u (.cells #[.slice none 0 0, .int .i64 0, .int .i64 0] 25); rw [hsz] at h; exact h
  go_upto_region 2 with (fail)
  obtain ⟨v, hv⟩ : ∃ v, v = u.alloc (.cells #[.slice none 0 0, .int .i64 0, .int .i64 0] 25) := ⟨_, rfl⟩
  rw [← hv] at HV2 P0 R0 O0 ⊢
  clear hv hsz K0 K1 HV
  obtain ⟨p0, p1, p2, _, _, _, _⟩ := cell3 P0.out
  have hv3 : w.heap.size + 3 ≤ v.heap.size := (cell3 O0.out).2.2.2.2.2.2
  go_wp2_with fail
  refine (callToSlotSS A c ts v B (by omega) hm (HR.out.below (HV2.out.mono hB))).mono ?_
  obtain ⟨b, hb0⟩ : ∃ b, b = v.heap.size := ⟨_, rfl⟩
  rw [← hb0]
  rintro e w1 ⟨rfl, us, hT⟩
  have HB1 := Lib.hid (bel_trans HV2.out hT.bel)
  have P1 := Lib.hid (blkc P0.out hT.bel)
  have R1 := Lib.hid (blkc R0.out hT.bel)
  have O1 := Lib.hid (blkc O0.out hT.bel)
  have HO : Hid (Own eTab 33 w1 (w.heap.size + 3) (.slice (some ⟨b, 0, none⟩) ts.length ts.length) us) := by have h := hT.own; rw [← hb0] at h; exact h.more (by omega)
  have HRW : Hid (∀ q, q ∈ us → Own eSlt 96 w1 (b + 1) (.slice q.A q.slots.length q.c) q.slots) := fun q hq => by have h := hT.rows q hq; rw [← hb0] at h; exact h
  have HM := Lib.hid (hT.map (Nat.le_refl _))
  have hbw : w.heap.size + 3 ≤ b := by omega
  clear hT hb0 p0 p1 p2 P0 R0 O0 HV2 HR hv3
  have O2 := Lib.hid (set3a (u := .slice (some ⟨b, 0, none⟩) ts.length ts.length) O1.out)
  have O3 := Lib.hid (set3b (u := .int .i64 now) O2.out)
  have O4 := Lib.hid (set3c (u := .int .i64 next) O3.out)
  have G2 := gset (w := w1) (g := w.heap.size + 2) 0 (.slice (some ⟨b, 0, none⟩) ts.length ts.length)
  have G3 := gset (w := w1.setCell ⟨w.heap.size + 2, 0, none⟩ (.slice (some ⟨b, 0, none⟩) ts.length ts.length)) (g := w.heap.size + 2) 1 (.int .i64 now)
  have G4 := gset (w := (w1.setCell ⟨w.heap.size + 2, 0, none⟩ (.slice (some ⟨b, 0, none⟩) ts.length ts.length)).setCell ⟨w.heap.size + 2, 1, none⟩ (.int .i64 now)) (g := w.heap.size + 2) 2 (.int .i64 next)
  have P2 := Lib.hid (gblk G2 P1.out (by simp))
  have P3 := Lib.hid (gblk G3 P2.out (by simp))
  have R4 := Lib.hid (gblk G4 (gblk G3 (gblk G2 R1.out (by simp)) (by simp)) (by simp))
  have G5 := gtrans (gtrans G2 G3) G4
  have HB4 := Lib.hid (((HB1.out.setCell (p := ⟨w.heap.size + 2, 0, none⟩) (by show _ ≤ w.heap.size + 2; omega) (.slice (some ⟨b, 0, none⟩) ts.length ts.length)).setCell (p := ⟨w.heap.size + 2, 1, none⟩) (by show _ ≤ w.heap.size + 2; omega) (.int .i64 now)).setCell (p := ⟨w.heap.size + 2, 2, none⟩) (by show _ ≤ w.heap.size + 2; omega) (.int .i64 next))
  have HB5 := Lib.hid (bset3 (b := w.heap.size + 1) HB4.out (by omega) (.slice (some ⟨b, 0, none⟩) ts.length ts.length) (.int .i64 now) (.int .i64 next))
  have HO4 := Lib.hid ((HO.out.kept G5 (fun k hk => by cases hk; omega)).kept (gset3 (g := w.heap.size + 1) (.slice (some ⟨b, 0, none⟩) ts.length ts.length) (.int .i64 now) (.int .i64 next)) (fun k hk => by cases hk; omega))
  have HRW4 : Hid (∀ q, q ∈ us → Own eSlt 96 _ (b + 1) (.slice q.A q.slots.length q.c) q.slots) := fun q hq => ((HRW.out q hq).kept G5 (fun k hk => by cases hk; omega)).kept (gset3 (g := w.heap.size + 1) (.slice (some ⟨b, 0, none⟩) ts.length ts.length) (.int .i64 now) (.int .i64 next)) (fun k hk => by cases hk; omega)
  clear G2 G3 G4 G5
  obtain ⟨f0, f1, f2⟩ := res3 R4.out (.slice (some ⟨b, 0, none⟩) ts.length ts.length) (.int .i64 now) (.int .i64 next)
  obtain ⟨p0, p1, p2, p3, p4, p5, p6⟩ := cell3 P2.out
  obtain ⟨k0, k1, k2, k3, k4, k5, k6⟩ := cell3 P3.out
  obtain ⟨n0, n1, n2, n3, n4, n5, n6⟩ := cell3 O1.out
  obtain ⟨o0, o1, o2, o3, o4, o5, o6⟩ := cell3 O2.out
  obtain ⟨q0, q1, q2, q3, q4, q5, q6⟩ := cell3 O3.out
  obtain ⟨s0, s1, s2, s3, s4, s5, s6⟩ := cell3 O4.out
  obtain ⟨r0, r1, r2, r3, r4, r5, r6⟩ := cell3 R4.out
  go_wp2_with fail
  exact bodyPost_ret (v := .agg #[.slice (some ⟨b, 0, none⟩) ts.length ts.length, .int .i64 now, .int .i64 next]) (by simp [results, Try.results45, go_sem, f0, f1, f2]) rfl ⟨b, us, rfl, by omega, HO4.out.more (by omega), HRW4.out, HM.out, HB5.out⟩
set_option maxRecDepth 100000 in
set_option maxHeartbeats 1600000 in
theorem callEqSlotSST (A A' : Option Addr) (c c' : Nat) (ts us : List Tab) (w : World) (B : Nat) (hB : B ≤ w.heap.size) (hm : ts.length ≤ 1048576) (hs : us.map Tab.slots = ts.map Tab.slots) (hr : RdT w B A ts) (hr' : RdT w B A' us) :
    Calls Try.prog 83 #[.slice A ts.length c, .slice A' us.length c'] w fun e w' => e = .returned (.bool true) ∧ Below w.heap.size w w' := by
  have HR := Lib.hid hr
  have HR' := Lib.hid hr'
  have HL := Lib.hid (map_len hs)
  have HS : Hid (∀ (k : Nat) (h : k < ts.length) (h' : k < us.length), us[k].slots = ts[k].slots) := fun k h h' => by
    have h5 : (us.map Tab.slots)[k]'(by simpa using h') = (ts.map Tab.slots)[k]'(by simpa using h) := by simp only [hs]
    simpa using h5
  have hd0 : ((ts.length : Int) != (us.length : Int)) = false := by rw [HL.out]; simp
  clear hr hr' hs
  go_enter Try.func83, Try.ntmps83
  go_wp2
  go_loopw [5] (fun i wr => ∃ k : Nat, k ≤ ts.length ∧ i = .int .i64 k ∧ Hid (Below w.heap.size w wr)) (fun i _ => ts.length - (intOf i).toNat)
  case atStart => exact ⟨0, by omega, rfl, Below.refl _ _⟩
  case round =>
    obtain ⟨k, hk, rfl, HB⟩ := hrel
    by_cases hlt : k < ts.length
    · have hlt' : k < us.length := by have := HL.out; omega
      have hd : decide ((k : Int) < (ts.length : Int)) = true := decide_eq_true (by omega)
      have hd' : decide ((k : Int) < (us.length : Int)) = true := decide_eq_true (by omega)
      have HRr := HR.out.below (HB.out.mono hB)
      have HRr' := HR'.out.below (HB.out.mono hB)
      obtain ⟨b, off, rfl, hbB, h1⟩ := HRr.1.at1 rfl hlt rfl
      obtain ⟨b', off', rfl, hbB', k1⟩ := HRr'.1.at1 rfl hlt' rfl
      have HW := Lib.hid (HRr.2 _ (List.getElem_mem hlt))
      have HW' := Lib.hid (HRr'.2 _ (List.getElem_mem hlt'))
      have HE := Lib.hid (HS.out k hlt hlt')
      obtain ⟨X, hX⟩ : ∃ X, X = ts[k] := ⟨_, rfl⟩
      obtain ⟨Y, hY⟩ : ∃ Y, Y = us[k] := ⟨_, rfl⟩
      rw [← hX] at h1 HW HE
      rw [← hY] at k1 HW' HE
      clear hX hY HRr HRr'
      have hBr : B ≤ wr.heap.size := Nat.le_trans hB HB.out.size
      have C0 : QCall Try.prog 102 #[.slice X.A X.slots.length X.c, .slice Y.A Y.slots.length Y.c] wr (.bool true) := QCall.of fun W' hb => by
        have hy := HW'.out.1
        rw [HE.out] at hy ⊢
        exact callEqSlotST X.A Y.A X.c Y.c X.slots W' B (Nat.le_trans hBr hb.size) HW.out.2 (HW.out.1.below (hb.mono hBr)) (hy.below (hb.mono hBr))
      unfold QCall at C0
      have r0 := cell_regrown h1
      have s0 := cell_regrown k1
      go_upto_region 6 with (fail)
      clear h1 k1
      refine wp_region_quiet_below (by kernel_rfl) (by kernel_rfl) ?_
      repeat (first | go_big_quiet_step (first | (go_at_call 102; with_reducible exact C0 _ _)) | quiet_step (first | (go_at_call 102; with_reducible exact C0 _ _)))
      refine wpQuiet_nil ?_
      intro w1 hw1
      have HB2 := Lib.hid (below_of_regrown hw1)
      clear hw1 C0 r0 s0
      go_wp2
      go_roundw
      case rel => exact ⟨k + 1, by omega, by go_num, HB.out.trans (HB2.out.mono HB.out.size)⟩
      case measure => simp [intOf]; omega
    · have hke : k = ts.length := by omega
      have hd : decide ((k : Int) < (ts.length : Int)) = false := decide_eq_false (by omega)
      clear hke
      go_wp2
      go_ret
      exact ⟨rfl, HB.out⟩
set_option maxRecDepth 100000 in
set_option maxHeartbeats 1600000 in
theorem callEqModesT (A A' : Option Addr) (c c' : Nat) (ts us : List Tab) (now next : Int) (w : World) (B : Nat) (hB : B ≤ w.heap.size) (hm : ts.length ≤ 1048576) (hs : us.map Tab.slots = ts.map Tab.slots) (hr : RdT w B A ts) (hr' : RdT w B A' us) :
    Calls Try.prog 46 #[.agg #[.slice A ts.length c, .int .i64 now, .int .i64 next], .agg #[.slice A' us.length c', .int .i64 now, .int .i64 next]] w fun e w' => e = .returned (.bool true) ∧ Below w.heap.size w w' := by
  have HV := Lib.hid (below2 w (.cells #[.slice A ts.length c, .int .i64 now, .int .i64 next] 25) (.cells #[.slice A' us.length c', .int .i64 now, .int .i64 next] 25))
  have K0 := Lib.hid (alloc_at0 w (.cells #[.slice A ts.length c, .int .i64 now, .int .i64 next] 25) (.cells #[.slice A' us.length c', .int .i64 now, .int .i64 next] 25))
  have K1 := Lib.hid (alloc_at1 w (.cells #[.slice A ts.length c, .int .i64 now, .int .i64 next] 25) (.cells #[.slice A' us.length c', .int .i64 now, .int .i64 next] 25))
  have HR := Lib.hid (hr.below (HV.out.mono hB))
  have HR' := Lib.hid (hr'.below (HV.out.mono hB))
  have e1 : (now != now) = false := by simp
  have e2 : (next != next) = false := by simp
  have HS := Lib.hid hs
  clear hr hr' hs
  go_enter Try.func46, Try.ntmps46
  go_upto_region 1 with (fail)
  obtain ⟨u, hu⟩ : ∃ u, u = ((w.alloc (.cells #[.slice A ts.length c, .int .i64 now, .int .i64 next] 25)).alloc (.cells #[.slice A' us.length c', .int .i64 now, .int .i64 next] 25)) := ⟨_, rfl⟩
  rw [← hu] at HV K0 K1 HR HR' ⊢
  clear hu
  obtain ⟨p0, p1, p2, _, _, _, _⟩ := cell3 K0.out
  obtain ⟨q0, q1, q2, _, _, _, _⟩ := cell3 K1.out
  go_wp2_with fail
  refine (callEqSlotSST A A' c c' ts us u B (Nat.le_trans hB HV.out.size) hm HS.out HR.out HR'.out).mono ?_
  rintro e w1 ⟨rfl, hb1⟩
  have HB1 := Lib.hid (bel_trans HV.out hb1)
  obtain ⟨r0, r1, r2, _, _, _, _⟩ := cell3 (blkc K0.out hb1)
  obtain ⟨s0, s1, s2, _, _, _, _⟩ := cell3 (blkc K1.out hb1)
  clear hb1 p0 p1 p2 q0 q1 q2
  go_wp2
  go_ret
  exact ⟨rfl, HB1.out⟩
end Go.Proofs.Ytapkgncmjinedaa
