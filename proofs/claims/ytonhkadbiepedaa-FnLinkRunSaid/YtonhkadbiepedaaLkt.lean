/- The copies of links that the reference makes. -/
import Derived.Test.YtonhkadbiepedaaLks
import Derived.Test.YtonhkadbiepedaaHos
import Derived.Deep.RegionHeldLaw
namespace Go.Proofs.Ytonhkadbiepedaa
open Go.RowKit Go.Sort

set_option maxRecDepth 100000 in
set_option maxHeartbeats 1600000 in
theorem callL23Copy (A : Option Addr) (c : Nat) (d : Int) (ps : List Pkt) (w : World) (B : Nat) (hB : B ≤ w.heap.size) (hm : ps.length ≤ 1000) (hr : Rd ePkt w B A ps) :
    Calls Try.prog 46 #[.agg #[.int .i64 d, .slice A ps.length c]] w fun e w' => ∃ A' c', e = .returned (.agg #[.int .i64 d, .slice A' ps.length c']) ∧ Own ePkt 46 w' w.heap.size (.slice A' ps.length c') ps ∧ ps.length ≤ c' ∧ Below w.heap.size w w' := by
  have hV := below2 w (.cells #[.int .i64 d, .slice A ps.length c] 36) (.cells #[.int .i64 0, .slice none 0 0] 36)
  have K0 := Lib.hid (alloc_at0 w (.cells #[.int .i64 d, .slice A ps.length c] 36) (.cells #[.int .i64 0, .slice none 0 0] 36))
  have K1 := Lib.hid (alloc_at1 w (.cells #[.int .i64 d, .slice A ps.length c] 36) (.cells #[.int .i64 0, .slice none 0 0] 36))
  have HR := Lib.hid hr
  clear hr
  go_enter Try.func46, Try.ntmps46
  go_upto_region 1 with (fail)
  obtain ⟨u, hu⟩ : ∃ u, u = ((w.alloc (.cells #[.int .i64 d, .slice A ps.length c] 36)).alloc (.cells #[.int .i64 0, .slice none 0 0] 36)) := ⟨_, rfl⟩
  rw [← hu] at hV K0 K1 ⊢
  clear hu
  have HV := Lib.hid hV
  clear hV
  have hsu : w.heap.size + 1 < u.heap.size := (cell2 K1.out).2.2.2.2
  obtain ⟨x0, x1, _, _, _⟩ := cell2 K0.out
  have hbe : Hid (Below u.heap.size u (u.alloc (.cells #[] 46)).drew) := (below1 u _).drew
  have HRR : Hid (Rd ePkt (u.alloc (.cells #[] 46)).drew (u.alloc (.cells #[] 46)).drew.heap.size A ps) := (HR.out.below ((bel_trans HV.out hbe.out).mono hB)).mono (Nat.le_trans hB (Nat.le_trans HV.out.size hbe.out.size))
  have KA := Lib.hid (blkc K0.out hbe.out)
  have KB := Lib.hid (blkc K1.out hbe.out)
  obtain ⟨xa0, xa1, _, _, _⟩ := cell2 KA.out
  have hroom : Hid (([] : List Pkt).length + ps.length ≤ 1073741824) := by show 0 + _ ≤ _; omega
  have hbase : Hid (u.heap.size ≤ (u.alloc (.cells #[] 46)).drew.heap.size) := hbe.out.size
  go_region_held3 (fun w' => w'.cell? ⟨w.heap.size, 0, none⟩ = some (.int .i64 d) ∧ w'.cell? ⟨w.heap.size, 1, none⟩ = some (.slice A ps.length c)) (first | exact ⟨x0, x1⟩ | exact ⟨xa0, xa1⟩ | (refine ⟨?_, ?_⟩ <;> assumption) | (refine ⟨?_, ?_⟩ <;> (rw [World.cell?_setCell_other _ _ _ _ (fun e => by injection e with e1 _ _; omega), World.cell?_setCell_other _ _ _ _ (fun e => by injection e with e1 _ _; omega)]; assumption)) | go_keep)
    ((refine step_app (n := ps.length) (c := c) eiPkt rfl (.tmp 5) (.tmp 7) rfl u.heap.size (xs := []) (Own.none_ (A := some ⟨u.heap.size, 0, none⟩)) HRR.out rfl (by simp [Act.eval, Act.put]) (by simp [Act.eval, Act.put]) hroom.out hbase.out ?_; intro v' w4 row hown4' hg4 hrow4; have hown4 : Own ePkt 46 w4 u.heap.size v' ps := hown4'; obtain ⟨A4, c4, hv4, hc4, _⟩ := hown4.form; subst hv4; have KA4 := Lib.hid (box_app KA.out hg4 (fun k hk => (hrow4 k hk).1) (by omega)); have KB4 := Lib.hid (box_app KB.out hg4 (fun k hk => (hrow4 k hk).1) (by omega)); have HO4 := Lib.hid hown4; have HB4 := Lib.hid ((bel_trans HV.out hbe.out).trans ((below_of_row hg4 (fun k hk => (hrow4 k hk).1) hbase.out).mono (by omega))); obtain ⟨n0, n1, _, _, _⟩ := cell2 KA4.out; obtain ⟨a1, a2, a3, a4, a5⟩ := cell2 KB4.out; obtain ⟨s0, s1⟩ := res2 KB4.out (.int .i64 d) (.slice A4 ps.length c4)))
  all_goals (try go_wp2)
  all_goals
    refine bodyPost_ret (v := .agg #[.int .i64 d, .slice A4 ps.length c4]) (by simp [results, Try.results46, go_sem, s0, s1]) rfl ⟨A4, c4, rfl, (HO4.out.kept (gset2 (g := w.heap.size + 1) _ _) (fun k hk => by cases hk; omega)).more (base' := w.heap.size) (by omega), hc4, bset2 HB4.out (by omega) _ _⟩

set_option maxRecDepth 100000 in
set_option maxHeartbeats 1600000 in
theorem callOwnLink (A : Option Addr) (c : Nat) (d : Int) (ps : List Pkt) (w : World) (B : Nat) (hB : B ≤ w.heap.size) (hm : ps.length ≤ 1000) (hr : Rd ePkt w B A ps) :
    Calls Try.prog 48 #[.agg #[.int .i64 d, .slice A ps.length c]] w fun e w' => ∃ A' c', e = .returned (.agg #[.int .i64 d, .slice A' ps.length c']) ∧ Own ePkt 46 w' w.heap.size (.slice A' ps.length c') ps ∧ ps.length ≤ c' ∧ Below w.heap.size w w' := by
  obtain ⟨u, hu⟩ : ∃ u, u = (((w.alloc (.cells #[.int .i64 d, .slice A ps.length c] 36)).alloc (.cells #[.int .i64 0, .slice none 0 0] 36)).alloc (.cells #[.int .i64 d, .slice A ps.length c] 36)) := ⟨_, rfl⟩
  have HV : Hid (Below w.heap.size w u) := by show Below _ _ _; rw [hu]; exact below3 w _ _ _
  have K0 : Hid (u.heap[w.heap.size]? = some (.cells #[.int .i64 d, .slice A ps.length c] 36 (0, 0))) := by show _ = _; rw [hu]; exact blkc (alloc_at0 w _ _) (below1 _ _)
  have K1 : Hid (u.heap[w.heap.size + 1]? = some (.cells #[.int .i64 0, .slice none 0 0] 36 (0, 0))) := by show _ = _; rw [hu]; exact blkc (alloc_at1 w _ _) (below1 _ _)
  have K2 : Hid (u.heap[w.heap.size + 1 + 1]? = some (.cells #[.int .i64 d, .slice A ps.length c] 36 (0, 0))) := by
    show _ = _
    rw [hu]
    have := heap_alloc_new ((w.alloc (.cells #[.int .i64 d, .slice A ps.length c] 36)).alloc (.cells #[.int .i64 0, .slice none 0 0] 36)) (.cells #[.int .i64 d, .slice A ps.length c] 36)
    rw [World.size_alloc, World.size_alloc] at this
    exact this
  have hsu : w.heap.size + 1 + 1 < u.heap.size := (cell2 K2.out).2.2.2.2
  have HRR : Hid (Rd ePkt (u.alloc (.cells #[] 46)) (u.alloc (.cells #[] 46)).heap.size A ps) := (hr.below ((bel_trans HV.out (below1 _ _)).mono hB)).mono (Nat.le_trans hB (Nat.le_trans HV.out.size (below1 u _).size))
  clear hr
  go_enter Try.func48, Try.ntmps48
  go_upto_region 2 with (fail)
  rw [← hu]
  clear hu
  obtain ⟨x0, x1, _, _, _⟩ := cell2 K0.out
  go_wp2_with (at_builtin; refine wpList_app _ eiPkt rfl (.tmp 5) (.tmp 7) rfl u.heap.size (xs := []) (Own.none_ (A := some ⟨u.heap.size, 0, none⟩)) HRR.out rfl rfl rfl (by show 0 + _ ≤ _; omega) (by simp) ?_; intro v' w4 row hown4' hg4 hrow4; have hown4 : Own ePkt 46 w4 u.heap.size v' ps := hown4'; obtain ⟨A4, c4, hv4, hc4, _⟩ := hown4.form; subst hv4; have hr4 : ∀ k, row = some k → u.heap.size ≤ k := (fun k hk => (hrow4 k hk).1); have Z1 := Lib.hid (box_app (blkc K1.out (below1 _ (.cells #[] 46))) hg4 hr4 (by omega)); have Z2 := Lib.hid (box_app (blkc K2.out (below1 _ (.cells #[] 46))) hg4 hr4 (by omega)); have HO4 := Lib.hid hown4; have HB4 := Lib.hid ((bel_trans HV.out (below1 u (.cells #[] 46))).trans ((below_of_row hg4 hr4 (by simp)).mono (by omega))); have Z3 := Lib.hid (set2b (u := .slice A4 ps.length c4) Z2.out); have Z4 := Lib.hid (blko Z1.out (p := ⟨w.heap.size + 1 + 1, 1, none⟩) (.slice A4 ps.length c4) (by show w.heap.size + 1 ≠ w.heap.size + 1 + 1; omega)); obtain ⟨z0, z1, z2, z3, z4⟩ := cell2 Z2.out; obtain ⟨y0, y1, y2, y3, y4⟩ := cell2 Z3.out; obtain ⟨a1, a2, a3, a4, a5⟩ := cell2 Z4.out; obtain ⟨s0, s1⟩ := res2 Z4.out (.int .i64 d) (.slice A4 ps.length c4))
  exact bodyPost_ret (v := .agg #[.int .i64 d, .slice A4 ps.length c4]) (by simp [results, Try.results48, go_sem, s0, s1]) rfl ⟨A4, c4, rfl, ((HO4.out.kept (gset (g := w.heap.size + 1 + 1) 1 (.slice A4 ps.length c4)) (fun k hk => by cases hk; omega)).kept (gset2 (g := w.heap.size + 1) _ _) (fun k hk => by cases hk; omega)).more (base' := w.heap.size) (by omega), hc4, bset2 (HB4.out.setCell (p := ⟨w.heap.size + 1 + 1, 1, none⟩) (by show w.heap.size ≤ w.heap.size + 1 + 1; omega) _) (by omega) _ _⟩
end Go.Proofs.Ytonhkadbiepedaa
