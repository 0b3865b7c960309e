/- What DrawLinkTake leaves. -/
import Derived.Test.YtonhkadbiepedaaDlk
namespace Go.Proofs.Ytonhkadbiepedaa
open Go.RowKit Go.Sort

theorem pick_t {p q : Int} (p1 : 0 ≤ p) (p3 : p < 40) (q1 : 0 ≤ q) (q3 : q < 14) : -2 ≤ IntKind.i64.wrap (p - IntKind.i64.wrap (q.tdiv 13)) ∧ IntKind.i64.wrap (p - IntKind.i64.wrap (q.tdiv 13)) ≤ 40 := by
  have e1 : q.tdiv 13 = q / 13 := Int.tdiv_eq_ediv_of_nonneg q1
  have e2 : IntKind.i64.wrap (q / 13) = q / 13 := IntWalk.i64_in _ (by omega)
  have e3 : IntKind.i64.wrap (p - q / 13) = p - q / 13 := IntWalk.i64_in _ (by omega)
  rw [e1, e2, e3]
  omega
set_option maxRecDepth 100000 in
set_option maxHeartbeats 1600000 in
theorem callDrawLinkTake (A : Option Addr) (c : Nat) (bs : List Int) (w : World) (hc : bs.length ≤ c) (hm : bs.length ≤ 1048576) (hr : Rd eU8 w w.heap.size A bs) (hby : ∀ x ∈ bs, 0 ≤ x ∧ x ≤ 255) :
    Calls Try.prog 22 #[.slice A bs.length c] w fun e w' =>
      ∃ A c d h t, e = .returned (.tuple #[.agg #[.int .i64 d, .slice A (h : List Pkt).length c], .int .i64 t]) ∧ Rd ePkt w' w'.heap.size A h ∧ h.length ≤ c ∧ h.length ≤ 21 ∧ -2 ≤ t ∧ t ≤ 40 ∧ Below w.heap.size w w' := by
  go_enter Try.func22, Try.ntmps22
  go_wp2_with fail
  refine (callOpen A c bs _ hc hm (hr.alloc _) hby).mono ?_
  rintro e w0 ⟨rfl, hr1, hb1⟩
  have hr1' : Rdr w0 (w.heap.size + 1) 0 := by simpa using hr1
  have HK0 : Hid (w0.heap[w.heap.size]? = some (.cells #[.int .i64 0, .slice none 0 0] 36 (0, 0))) := blkc (heap_alloc_new w _) hb1
  have HB := Lib.hid (bel_trans (below1 _ _) hb1)
  have HR := Lib.hid hr1'
  have hs0 : w.heap.size + 1 < w0.heap.size := hr1'.lt
  clear hr1 hr1' hb1 hr
  obtain ⟨g, hg⟩ : ∃ g, g = w.heap.size + 1 := ⟨_, rfl⟩
  have hgw : w.heap.size + 1 ≤ g := by omega
  have hgw2 : w.heap.size ≠ g := by omega
  simp only [World.size_alloc]
  rw [← hg] at HR hs0 ⊢
  clear hg
  go_wp2_with fail
  refine (callDrawLink g 0 12 _ HR.out (by omega)).mono ?_
  rintro e wa ⟨A2, c2, d, h, rfl, hown2, hc2, hl2, hr2, hg2⟩
  have hsa : w0.heap.size ≤ wa.heap.size := hg2.size
  have HK1 := Lib.hid (blkc (gblk hg2 HK0.out (by simp; omega)) (below1 wa (.cells #[.int .i64 d, .slice A2 h.length c2] 36)))
  have HX1 := Lib.hid (heap_alloc_new wa (.cells #[.int .i64 d, .slice A2 h.length c2] 36))
  have HO1 := Lib.hid ((hown2.more (base' := g + 1) (by omega)).alloc (.cells #[.int .i64 d, .slice A2 h.length c2] 36))
  have HR1 := Lib.hid (hr2.alloc (.cells #[.int .i64 d, .slice A2 h.length c2] 36))
  have HB1 := Lib.hid (bel_trans (HB.out.trans ((Below.refl _ _).grown hg2 (by omega) (fun k hk => by cases hk; omega))) (below1 wa (.cells #[.int .i64 d, .slice A2 h.length c2] 36)))
  have hga : g < wa.heap.size := by omega
  clear hown2 hr2 hg2 HK0 HB HR
  go_upto_region 3 with (fail)
  obtain ⟨w1, hw1⟩ : ∃ w1, w1 = wa.alloc (.cells #[.int .i64 d, .slice A2 h.length c2] 36) := ⟨_, rfl⟩
  obtain ⟨X, hX⟩ : ∃ X, X = wa.heap.size := ⟨_, rfl⟩
  have hs1 : g < w1.heap.size := by rw [hw1]; simp; omega
  rw [← hw1] at HK1 HX1 HO1 HR1 HB1 ⊢
  rw [← hX] at HX1 hga ⊢
  clear hw1 hX
  have LQ1 : Hid (∀ W M, Rdr W g M → w1.drew.grownBy W (some g) → (W.heap[X]? = some (.cells #[.int .i64 d, .slice A2 h.length c2] 36 (0, 0)) ∧ W.heap[w.heap.size]? = some (.cells #[.int .i64 0, .slice none 0 0] 36 (0, 0)) ∧ Own ePkt 46 W (g + 1) (.slice A2 h.length c2) h ∧ Below w.heap.size w W ∧ Rdr W g M)) := fun W M hR hG =>
    ⟨gblk hG HX1.out (by simp; omega), gblk hG HK1.out (by simp; omega), (HO1.out.drew).kept hG (fun k hk => by cases hk; omega), (HB1.out.drew).trans ((Below.refl _ _).grown hG (show w.heap.size ≤ w1.heap.size by omega) (fun k hk => by cases hk; omega)), hR⟩
  obtain ⟨x0, x1, x2, x3, x4⟩ := cell2 HX1.out
  obtain ⟨y0, y1, y2, y3, y4⟩ := cell2 HK1.out
  have hM1 : 0 + 40 ≤ 1000000 := by omega
  have hM2 : 0 + 40 + 1 ≤ 1000000 := by omega
  go_region_law (first
    | (go_simp; go_at_call_of 43 (Value.int IntKind.i64 40); first
        | (refine (callPick g _ _ _ (LQ1.out _ _ RB.out.1 RB.out.2).2.2.2.2 hM2).mono ?_; rintro e w5 ⟨p, rfl, p1, p2, _, hr5, hg5⟩; have p3 : p < 40 := p2 (by omega); have RE := Lib.hid (And.intro hr5 (grown_trans' RB.out.2 hg5)); have QE := Lib.hid (LQ1.out _ _ RE.out.1 RE.out.2); obtain ⟨m0, m1, m2, m3, m4⟩ := cell2 QE.out.1; obtain ⟨n0, n1, n2, n3, n4⟩ := cell2 QE.out.2.1)
        | (refine (callPick g _ _ _ HR1.out.drew hM1).mono ?_; rintro e w5 ⟨p, rfl, p1, p2, _, hr5, hg5⟩; have p3 : p < 40 := p2 (by omega); have RA := Lib.hid (And.intro hr5 hg5); obtain ⟨m0, m1, m2, m3, m4⟩ := cell2 (LQ1.out _ _ RA.out.1 RA.out.2).1))
    | (go_simp; go_at_call_of 43 (Value.int IntKind.i64 14); first
        | (refine (callPick g _ _ _ (LQ1.out _ _ RA.out.1 RA.out.2).2.2.2.2 hM2).mono ?_; rintro e w6 ⟨q, rfl, q1, q2, _, hr6, hg6⟩; have q3 : q < 14 := q2 (by omega); have RE := Lib.hid (And.intro hr6 (grown_trans' RA.out.2 hg6)); have QE := Lib.hid (LQ1.out _ _ RE.out.1 RE.out.2); obtain ⟨m0, m1, m2, m3, m4⟩ := cell2 QE.out.1; obtain ⟨n0, n1, n2, n3, n4⟩ := cell2 QE.out.2.1)
        | (refine (callPick g _ _ _ HR1.out.drew hM1).mono ?_; rintro e w6 ⟨q, rfl, q1, q2, _, hr6, hg6⟩; have q3 : q < 14 := q2 (by omega); have RB := Lib.hid (And.intro hr6 hg6); obtain ⟨m0, m1, m2, m3, m4⟩ := cell2 (LQ1.out _ _ RB.out.1 RB.out.2).1)))
  all_goals (try go_wp2)
  all_goals
    obtain ⟨s0, s1⟩ := res2 QE.out.2.1 (.int .i64 d) (.slice A2 h.length c2)
    have HT := pick_t p1 p3 q1 q3
    have HOw := (QE.out.2.2.1.kept (gset2 (g := w.heap.size) (.int .i64 d) (.slice A2 h.length c2)) (fun k hk => by cases hk; omega)).rd
    have HBw := bset2 QE.out.2.2.2.1 (Nat.le_refl _) (.int .i64 d) (.slice A2 h.length c2)
    exact bodyPost_ret (v := .tuple #[.agg #[.int .i64 d, .slice A2 h.length c2], .int .i64 (IntKind.i64.wrap (p - IntKind.i64.wrap (q.tdiv 13)))]) (by simp [results, Try.results22, go_sem, s0, s1]) rfl ⟨A2, c2, d, h, _, rfl, HOw, hc2, hl2, HT.1, HT.2, HBw⟩
end Go.Proofs.Ytonhkadbiepedaa
