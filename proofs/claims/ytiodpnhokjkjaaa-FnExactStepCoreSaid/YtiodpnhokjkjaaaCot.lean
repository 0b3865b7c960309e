/- Cores of the reference: what is valid, copies, and new ones, for every input. -/
import Derived.Test.YtiodpnhokjkjaaaCos
namespace Go.Proofs.Ytiodpnhokjkjaaa
open Go.RowKit Go.Sort

set_option maxRecDepth 100000 in
set_option maxHeartbeats 3200000 in
theorem callSCoreValid (A : Option Addr) (c : Nat) (cr : Cor) (Ao : Option Addr) (co : Nat) (os : List Ord3) (cells : Int) (w : World) (B : Nat) (hB : B ≤ w.heap.size) (hm : cr.cs.length ≤ 1048576) (hm2 : os.length ≤ 1048576) (hr : Rd eInt w B A cr.cs) (hr2 : Rd eOrd w B Ao os) :
    Calls Try.prog 22 #[.agg #[.slice A cr.cs.length c, .int .i64 cr.at', .bool cr.stop], .slice Ao os.length co, .int .i64 cells] w fun e w' => e = .returned (.bool (coreB cr os cells)) ∧ Below w.heap.size w w' := by
  have E := Lib.hid (coreB_split cr os cells)
  obtain ⟨cb, hcb⟩ : ∃ cb, cb = coreB cr os cells := ⟨_, rfl⟩
  rw [← hcb] at E ⊢
  clear hcb
  obtain ⟨cs, at0, st⟩ := cr
  simp only at hm hr E ⊢
  have HP := Lib.hid (callSProgValid Ao co os cells (w.alloc (.cells #[.slice A cs.length c, .int .i64 at0, .bool st] 33)) B (by simp; omega) hm2 (hr2.below ((below1 _ _).mono hB)))
  have HR := Lib.hid (hr.below ((below1 w (.cells #[.slice A cs.length c, .int .i64 at0, .bool st] 33)).mono hB))
  have K0 := Lib.hid (heap_alloc_new w (.cells #[.slice A cs.length c, .int .i64 at0, .bool st] 33))
  have HV := Lib.hid (below1 w (.cells #[.slice A cs.length c, .int .i64 at0, .bool st] 33))
  have hw1 : IntKind.i64.wrap ((os.length : Int) - 1) = (os.length : Int) - 1 := IntWalk.i64_in _ (by omega)
  clear hr hr2
  go_enter Try.func22, Try.ntmps22
  go_upto_region 2 with (fail)
  obtain ⟨u, hu⟩ : ∃ u, u = w.alloc (.cells #[.slice A cs.length c, .int .i64 at0, .bool st] 33) := ⟨_, rfl⟩
  rw [← hu] at HP HR K0 HV ⊢
  clear hu
  obtain ⟨x0, x1, x2, _, _, _, _⟩ := cell3 K0.out
  go_wp2
  go_loopw [7] (fun i wr => ∃ k : Nat, k ≤ cs.length ∧ i = .int .i64 k ∧ wr = u ∧ Hid (∀ i (_ : i < k) (h : i < cs.length), valB cs[i] = true)) (fun i _ => cs.length - (intOf i).toNat)
  case atStart => exact ⟨0, by omega, rfl, rfl, fun i hi => by omega⟩
  case round =>
    obtain ⟨k, hk, rfl, rfl, HV2⟩ := hrel
    by_cases hlt : k < cs.length
    · have hd : decide ((k : Int) < (cs.length : Int)) = true := decide_eq_true (by omega)
      have hd2 : decide (k < cs.length) = true := decide_eq_true hlt
      obtain ⟨b, off, rfl, hbB, h1⟩ := HR.out.at1 rfl hlt rfl
      have ES : Hid (valB cs[k] = inB cs[k] 0 255) := rfl
      cases q1 : inB cs[k] 0 255
      · rw [q1] at ES
        have ha := Lib.hid (all_snoc_false (p := valB) hlt ES.out)
        rw [ha.out, Bool.and_false, Bool.and_false] at E
        go_wp2_with (go_at_call 52; refine (callL1In _ _ _ _).mono ?_; rintro e w' ⟨rfl, rfl⟩)
        go_ret
        exact ⟨by rw [E.out] <;> rfl, HV.out⟩
      · rw [q1] at ES
        have hst : Hid (∀ i (_ : i < k + 1) (h : i < cs.length), valB cs[i] = true) := fun i hi h' => by
          rcases Nat.lt_or_ge i k with h'' | h''
          · exact HV2.out i h'' h'
          · have : i = k := by omega
            subst this; exact ES.out
        go_wp2_with (go_at_call 52; refine (callL1In _ _ _ _).mono ?_; rintro e w' ⟨rfl, rfl⟩)
        go_roundw
        case rel => exact ⟨k + 1, by omega, by go_num, (by first | trivial | rfl), hst⟩
        case measure => simp [intOf]; omega
    · have hd : decide ((k : Int) < (cs.length : Int)) = false := decide_eq_false (by omega)
      have hd2 : decide (k < cs.length) = false := decide_eq_false hlt
      have ha : cs.all valB = true := all_of_get fun i hi => HV2.out i (by omega) hi
      rw [ha, Bool.and_true] at E
      clear ha
      cases q1 : progB os cells
      · rw [q1] at HP E
        go_wp2_with fail
        refine HP.out.mono ?_
        rintro e w1 ⟨rfl, hb1⟩
        have HB1 := Lib.hid (bel_trans HV.out hb1)
        clear hb1 x0 x1 x2
        go_wp2
        go_ret
        exact ⟨by rw [E.out] <;> rfl, HB1.out⟩
      · rw [q1] at HP E
        go_wp2_with fail
        refine HP.out.mono ?_
        rintro e w1 ⟨rfl, hb1⟩
        have HB1 := Lib.hid (bel_trans HV.out hb1)
        have K1 := Lib.hid (blkc K0.out hb1)
        clear hb1 x0 x1 x2
        obtain ⟨x0, x1, x2, _, _, _, _⟩ := cell3 K1.out
        by_cases hl : (cs.length : Int) = cells
        · have hdd : ((cs.length : Int) == cells) = true := by rw [beq_iff_eq]; exact hl
          rw [decide_eq_true hl] at E
          clear hl
          go_wp2_with (go_at_call 52; refine (callL1In _ _ _ _).mono ?_; rintro e w' ⟨rfl, rfl⟩)
          go_ret
          exact ⟨by rw [E.out] <;> simp, HB1.out⟩
        · have hdd : ((cs.length : Int) == cells) = false := by rw [beq_eq_false_iff_ne]; exact hl
          rw [decide_eq_false hl] at E
          clear hl
          go_wp2_with (go_at_call 52; refine (callL1In _ _ _ _).mono ?_; rintro e w' ⟨rfl, rfl⟩)
          go_ret
          exact ⟨by rw [E.out] <;> rfl, HB1.out⟩

theorem box_app' {w w' : World} {row : Option Nat} {b base : Nat} {o : Obj} (h : w.heap[b]? = some o) (hg : w.grownBy w' row) (hr : ∀ k, row = some k → base ≤ k) (hb : b < base) : w'.heap[b]? = some o :=
  gblk hg h (fun e => by have := hr b e.symm; omega)
set_option maxRecDepth 100000 in
set_option maxHeartbeats 1600000 in
theorem callOwnCore (A : Option Addr) (c : Nat) (cr : Cor) (w : World) (B : Nat) (hB : B ≤ w.heap.size) (hm : cr.cs.length ≤ 1048576) (hr : Rd eInt w B A cr.cs) :
    Calls Try.prog 58 #[.agg #[.slice A cr.cs.length c, .int .i64 cr.at', .bool cr.stop]] w (CorRes w cr) := by
  obtain ⟨cs, at0, st⟩ := cr
  simp only at hm hr ⊢
  obtain ⟨u, hu⟩ : ∃ u, u = (((w.alloc (.cells #[.slice A cs.length c, .int .i64 at0, .bool st] 33)).alloc (.cells #[.slice none 0 0, .int .i64 0, .bool false] 33)).alloc (.cells #[.slice A cs.length c, .int .i64 at0, .bool st] 33)) := ⟨_, rfl⟩
  have HV : Hid (Below w.heap.size w u) := by show Below _ _ _; rw [hu]; exact below3 w _ _ _
  have K0 : Hid (u.heap[w.heap.size]? = some (.cells #[.slice A cs.length c, .int .i64 at0, .bool st] 33 (0, 0))) := by show _ = _; rw [hu]; exact blkc (alloc_at0 w _ _) (below1 _ _)
  have K1 : Hid (u.heap[w.heap.size + 1]? = some (.cells #[.slice none 0 0, .int .i64 0, .bool false] 33 (0, 0))) := by show _ = _; rw [hu]; exact blkc (alloc_at1 w _ _) (below1 _ _)
  have K2 : Hid (u.heap[w.heap.size + 1 + 1]? = some (.cells #[.slice A cs.length c, .int .i64 at0, .bool st] 33 (0, 0))) := by
    show _ = _
    rw [hu]
    have := heap_alloc_new ((w.alloc (.cells #[.slice A cs.length c, .int .i64 at0, .bool st] 33)).alloc (.cells #[.slice none 0 0, .int .i64 0, .bool false] 33)) (.cells #[.slice A cs.length c, .int .i64 at0, .bool st] 33)
    rw [World.size_alloc, World.size_alloc] at this
    exact this
  have hsu : w.heap.size + 1 + 1 < u.heap.size := (cell3 K2.out).2.2.2.2.2.2
  have HRR : Hid (Rd eInt (u.alloc (.cells #[] 3)) (u.alloc (.cells #[] 3)).heap.size A cs) := (hr.below ((bel_trans HV.out (below1 _ _)).mono hB)).mono (Nat.le_trans hB (Nat.le_trans HV.out.size (below1 u _).size))
  clear hr
  go_enter Try.func58, Try.ntmps58
  go_upto_region 2 with (fail)
  rw [← hu]
  clear hu
  obtain ⟨x0, x1, x2, _, _, _, _⟩ := cell3 K0.out
  go_wp2_with (at_builtin; refine wpList_app _ eiInt rfl (.tmp 5) (.tmp 7) rfl u.heap.size (xs := []) (Own.none_ (A := some ⟨u.heap.size, 0, none⟩)) HRR.out rfl rfl rfl (by show 0 + _ ≤ _; omega) (by simp) ?_; intro v' w4 row hown4' hg4 hrow4; have hown4 : Own eInt 3 w4 u.heap.size v' cs := hown4'; obtain ⟨A4, c4, hv4, hc4, _⟩ := hown4.form; subst hv4; have hr4 : ∀ k, row = some k → u.heap.size ≤ k := (fun k hk => (hrow4 k hk).1); have Z1 := Lib.hid (box_app' (blkc K1.out (below1 _ (.cells #[] 3))) hg4 hr4 (by omega)); have Z2 := Lib.hid (box_app' (blkc K2.out (below1 _ (.cells #[] 3))) hg4 hr4 (by omega)); have HO4 := Lib.hid hown4; have HB4 := Lib.hid ((bel_trans HV.out (below1 u (.cells #[] 3))).trans ((below_of_row hg4 hr4 (by simp)).mono (by omega))); have Z3 := Lib.hid (set3a (u := .slice A4 cs.length c4) Z2.out); have Z4 := Lib.hid (blko Z1.out (p := ⟨w.heap.size + 1 + 1, 0, none⟩) (.slice A4 cs.length c4) (by show w.heap.size + 1 ≠ w.heap.size + 1 + 1; omega)); obtain ⟨z0, z1, z2, z3, z4, z5, z6⟩ := cell3 Z2.out; obtain ⟨y0, y1, y2, y3, y4, y5, y6⟩ := cell3 Z3.out; obtain ⟨a0, a1, a2, a3, a4, a5, a6⟩ := cell3 Z4.out; obtain ⟨s0, s1, s2⟩ := res3 Z4.out (.slice A4 cs.length c4) (.int .i64 at0) (.bool st))
  exact bodyPost_ret (v := .agg #[.slice A4 cs.length c4, .int .i64 at0, .bool st]) (by simp [results, Try.results58, go_sem, s0, s1, s2]) rfl ⟨A4, c4, rfl, ((HO4.out.kept (gset (g := w.heap.size + 1 + 1) 0 (.slice A4 cs.length c4)) (fun k hk => by cases hk; omega)).kept (gset3 (g := w.heap.size + 1) _ _ _) (fun k hk => by cases hk; omega)).more (base' := w.heap.size) (by omega), hc4, bset3 (HB4.out.setCell (p := ⟨w.heap.size + 1 + 1, 0, none⟩) (by show w.heap.size ≤ w.heap.size + 1 + 1; omega) _) (by omega) _ _ _⟩

set_option maxHeartbeats 800000 in
theorem callSNewCore (n : Nat) (w : World) (h1 : 1 ≤ n) (h8 : n ≤ 8) : Calls Try.prog 40 #[.int .i64 n] w (CorRes w ⟨List.replicate n 0, 0, false⟩) := by
  have hq : inB (n : Int) 1 8 = true := inB_iff.2 ⟨by omega, by omega⟩
  have K := Lib.hid (heap_alloc_new w (.cells #[.slice none 0 0, .int .i64 0, .bool false] 33))
  obtain ⟨r, hr⟩ : ∃ r : List Int, r = List.replicate n 0 := ⟨_, rfl⟩
  have hrl : n = r.length := by rw [hr, List.length_replicate]
  rw [← hr]
  have HR := Lib.hid hr
  clear hr
  subst hrl
  go_enter Try.func40, Try.ntmps40
  go_wp2_with (first
    | (go_at_call 52; refine (callL1In _ _ _ _).mono ?_; rintro e w' ⟨rfl, rfl⟩)
    | (at_make; refine wpList_mkE (E := eInt) _ Try.underlying31 (z := .int .i64 0) (m := 8) (by kernel_rfl) (by decide) (0 : Int) rfl rfl _ _ rfl (w.heap.size + 1) r.length r.length r.length rfl rfl rfl rfl (by omega) (by simp) ?_; intro w4 hown4' hb4; rw [← HR.out] at hown4'; have HO4 := Lib.hid hown4'; have HB4 := Lib.hid (bel_trans (below1 w (.cells #[.slice none 0 0, .int .i64 0, .bool false] 33)) hb4); have J4 := Lib.hid (blkc K.out hb4); clear hown4' hb4; obtain ⟨y0, y1, y2, y3, y4, y5, y6⟩ := cell3 J4.out; obtain ⟨s0, s1, s2⟩ := res3 J4.out (.slice (some ⟨w.heap.size + 1, 0, none⟩) r.length r.length) (.int .i64 0) (.bool false)))
  exact bodyPost_ret (v := .agg #[.slice (some ⟨w.heap.size + 1, 0, none⟩) r.length r.length, .int .i64 0, .bool false]) (by simp [results, Try.results40, go_sem, s0, s1, s2]) rfl ⟨some ⟨w.heap.size + 1, 0, none⟩, r.length, rfl, (by have h := HO4.out; simp only [World.size_alloc] at h; exact (h.kept (gset3 _ _ _) (fun k hk => by cases hk; omega)).more (by omega)), Nat.le_refl _, bset3 HB4.out (Nat.le_refl _) _ _ _⟩
end Go.Proofs.Ytiodpnhokjkjaaa
