/- What DrawTouchCache and DrawTouchTime leave. -/
import Derived.Test.YtlkdngjpbohgaaaDrc
namespace Go.Proofs.Ytlkdngjpbohgaaa
open Go.RowKit Go.Sort

set_option maxRecDepth 100000 in
set_option maxHeartbeats 1600000 in
theorem callDrawTouchCache (A : Option Addr) (c : Nat) (bs : List Int) (w : World) (hc : bs.length ≤ c) (hm : bs.length ≤ 1048576) (hr : Rd eU8 w w.heap.size A bs) (hby : ∀ x ∈ bs, 0 ≤ x ∧ x ≤ 255) :
    Calls Try.prog 22 #[.slice A bs.length c] w fun e w' =>
      ∃ A c h p, e = .returned (.tuple #[.agg #[.slice A (h : List Int).length c], .int .i64 p]) ∧ Rd eInt w' w'.heap.size A h ∧ h.length ≤ c ∧ h.length ≤ 20 ∧ -1 ≤ p ∧ p ≤ 4096 ∧ Below w.heap.size w w' := by
  go_enter Try.func22, Try.ntmps22
  go_wp2_with fail
  refine (callOpen A c bs _ hc hm (hr.alloc _) hby).mono ?_
  rintro e w1 ⟨rfl, hr1, hb1⟩
  have hr1' : Rdr w1 (w.heap.size + 1) 0 := by simpa using hr1
  have HK1 : Hid (w1.heap[w.heap.size]? = some (.cells #[.slice none 0 0] 25 (0, 0))) := blkc (heap_alloc_new w _) hb1
  have HB := Lib.hid (bel_trans (below1 _ _) hb1)
  have HR := Lib.hid hr1'
  have hs1 : w.heap.size + 1 < w1.heap.size := hr1'.lt
  clear hr1 hr1' hb1
  go_wp2_with fail
  refine (callDrawCache (w.heap.size + 1) 0 _ _ HR.out (by omega)).mono ?_
  rintro e w2 ⟨A2, c2, h, rfl, hown2, hc2, hl2, hr2, hg2⟩
  have HK2 := Lib.hid (blkc (gblk hg2 HK1.out (by simp)) (below1 w2 (.cells #[.slice A2 h.length c2] 25)))
  have hs2 : w1.heap.size ≤ w2.heap.size := hg2.size
  have H2 := Lib.hid (And.intro ((hown2.more (base' := w.heap.size + 2) (by omega)).alloc (.cells #[.slice A2 h.length c2] 25)) (And.intro (hr2.alloc (.cells #[.slice A2 h.length c2] 25)) ((HB.out.trans ((Below.refl _ _).grown hg2 (by omega) (fun k hk => by cases hk; omega))).alloc (by omega) (.cells #[.slice A2 h.length c2] 25))))
  have HX2 : Hid ((w2.alloc (.cells #[.slice A2 h.length c2] 25)).heap[w2.heap.size]? = some (.cells #[.slice A2 h.length c2] 25 (0, 0))) := heap_alloc_new w2 _
  have hx2 := (cell1 HX2.out).1
  clear hown2 hr2 hg2
  go_wp2_with fail
  go_region_held3 (fun w' => w'.cell? ⟨w2.heap.size, 0, none⟩ = some (.slice A2 h.length c2)) (first | exact hx2 | assumption | (rw [World.cell?_setCell_other _ _ _ _ (fun e => by injection e with e1 _ _; omega)]; assumption) | go_keep)
    ((go_at_call 56; refine (callDrawPlace (w.heap.size + 1) (0 + 20) 9 _ H2.out.2.1.drew (by omega)).mono ?_; rintro e w3 ⟨p, rfl, hp1, hp2, hr3, hg3⟩; have n1 : w3.cell? ⟨w2.heap.size, 0, none⟩ = some (.slice A2 h.length c2) := (cell1 (gblk hg3 HX2.out (by simp; omega))).1; have HK3 := Lib.hid (gblk hg3 HK2.out (by simp)); have HO3 := Lib.hid (H2.out.1.drew.kept hg3 (fun k hk => by cases hk; omega)); have HB3 := Lib.hid (H2.out.2.2.drew.trans ((Below.refl _ _).grown hg3 (by simp; omega) (fun k hk => by cases hk; omega))); obtain ⟨k1, k2, k3⟩ := cell1 HK3.out; have HRS := Lib.hid (res1 HK3.out (.slice A2 h.length c2))))
  all_goals (try go_wp2)
  all_goals
    refine bodyPost_ret (v := .tuple #[.agg #[.slice A2 h.length c2], .int .i64 p]) (by simp [results, Try.results22, go_sem, HRS.out]) rfl ⟨A2, c2, h, p, rfl, ?_, hc2, hl2, hp1, hp2, ?_⟩
    · exact (HO3.out.kept (gset 0 _) (fun k hk => by cases hk; omega)).rd
    · exact HB3.out.setCell (by show w.heap.size ≤ w.heap.size; omega) _

set_option maxRecDepth 100000 in
set_option maxHeartbeats 1600000 in
theorem callDrawTouchTime (A : Option Addr) (c : Nat) (bs : List Int) (w : World) (hc : bs.length ≤ c) (hm : bs.length ≤ 1048576) (hr : Rd eU8 w w.heap.size A bs) (hby : ∀ x ∈ bs, 0 ≤ x ∧ x ≤ 255) :
    Calls Try.prog 32 #[.slice A bs.length c] w fun e w' =>
      ∃ A c h A' c' ps, e = .returned (.tuple #[.agg #[.slice A (h : List Int).length c], .slice A' (ps : List Int).length c']) ∧ Rd eInt w' w'.heap.size A h ∧ Rd eInt w' w'.heap.size A' ps ∧ h.length ≤ c ∧ h.length ≤ 20 ∧ ps.length ≤ c' ∧ ps.length ≤ 61 ∧ Below w.heap.size w w' := by
  go_enter Try.func32, Try.ntmps32
  go_wp2_with fail
  refine (callOpen A c bs _ hc hm (hr.alloc _) hby).mono ?_
  rintro e w1 ⟨rfl, hr1, hb1⟩
  have hr1' : Rdr w1 (w.heap.size + 1) 0 := by simpa using hr1
  have HK1 : Hid (w1.heap[w.heap.size]? = some (.cells #[.slice none 0 0] 25 (0, 0))) := blkc (heap_alloc_new w _) hb1
  have HB := Lib.hid (bel_trans (below1 _ _) hb1)
  have HR := Lib.hid hr1'
  have hs1 : w.heap.size + 1 < w1.heap.size := hr1'.lt
  clear hr1 hr1' hb1
  go_wp2_with fail
  refine (callDrawCache (w.heap.size + 1) 0 _ _ HR.out (by omega)).mono ?_
  rintro e w2 ⟨A2, c2, h, rfl, hown2, hc2, hl2, hr2, hg2⟩
  have HK2 := Lib.hid (blkc (gblk hg2 HK1.out (by simp)) (below1 w2 (.cells #[.slice A2 h.length c2] 25)))
  have hs2 : w1.heap.size ≤ w2.heap.size := hg2.size
  have H2 := Lib.hid (And.intro ((hown2.more (base' := w.heap.size + 2) (by omega)).alloc (.cells #[.slice A2 h.length c2] 25)) (And.intro (hr2.alloc (.cells #[.slice A2 h.length c2] 25)) ((HB.out.trans ((Below.refl _ _).grown hg2 (by omega) (fun k hk => by cases hk; omega))).alloc (by omega) (.cells #[.slice A2 h.length c2] 25))))
  have HX2 : Hid ((w2.alloc (.cells #[.slice A2 h.length c2] 25)).heap[w2.heap.size]? = some (.cells #[.slice A2 h.length c2] 25 (0, 0))) := heap_alloc_new w2 _
  have hx2 := (cell1 HX2.out).1
  clear hown2 hr2 hg2
  go_wp2_with fail
  go_region_held3 (fun w' => w'.cell? ⟨w2.heap.size, 0, none⟩ = some (.slice A2 h.length c2)) (first | exact hx2 | assumption | (rw [World.cell?_setCell_other _ _ _ _ (fun e => by injection e with e1 _ _; omega)]; assumption) | go_keep)
    ((go_at_call 68; refine (callDrawPlaces (w.heap.size + 1) (0 + 20) 40 _ H2.out.2.1.drew (by omega)).mono ?_; rintro e w3 ⟨A3, c3, ps, rfl, hown3, hc3, hl3, hr3, hg3⟩; have n1 : w3.cell? ⟨w2.heap.size, 0, none⟩ = some (.slice A2 h.length c2) := (cell1 (gblk hg3 HX2.out (by simp; omega))).1; have HK3 := Lib.hid (gblk hg3 HK2.out (by simp)); have HO3 := Lib.hid (H2.out.1.drew.kept hg3 (fun k hk => by cases hk; omega)); have HB3 := Lib.hid (H2.out.2.2.drew.trans ((Below.refl _ _).grown hg3 (by simp; omega) (fun k hk => by cases hk; omega))); obtain ⟨k1, k2, k3⟩ := cell1 HK3.out; have HRS := Lib.hid (res1 HK3.out (.slice A2 h.length c2))))
  all_goals (try go_wp2)
  all_goals
    refine bodyPost_ret (v := .tuple #[.agg #[.slice A2 h.length c2], .slice A3 ps.length c3]) (by simp [results, Try.results32, go_sem, HRS.out]) rfl ⟨A2, c2, h, A3, c3, ps, rfl, ?_, ?_, hc2, hl2, hc3, hl3, ?_⟩
    · exact (HO3.out.kept (gset 0 _) (fun k hk => by cases hk; omega)).rd
    · exact (hown3.kept (gset 0 _) (fun k hk => by cases hk; simp <;> omega)).rd
    · exact HB3.out.setCell (by show w.heap.size ≤ w.heap.size; omega) _
end Go.Proofs.Ytlkdngjpbohgaaa
