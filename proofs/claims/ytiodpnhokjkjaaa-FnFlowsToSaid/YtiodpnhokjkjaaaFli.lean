/- What the drawing functions of nets and flows leave. -/
import Derived.Test.YtiodpnhokjkjaaaFlh
namespace Go.Proofs.Ytiodpnhokjkjaaa
open Go.RowKit Go.Sort

set_option maxRecDepth 100000 in
set_option maxHeartbeats 3200000 in
theorem callDrawNet (g M : Nat) (n : Int) (w : World) (hr : Rdr w g M) (hM : M ≤ 700000) :
    Calls Try.prog 46 #[.pointer (some ⟨g, 0, none⟩), .int .i64 n] w fun e w' =>
      ∃ A c os p, e = .returned (.tuple #[.slice A (os : List Chn).length c, .int .i64 p]) ∧ os.length ≤ 9 ∧ -1 ≤ p ∧ p ≤ 6 ∧ CL w g (M + 40) A c os w' := by
  have hgw := hr.lt
  have HR := Lib.hid hr
  clear hr
  go_enter Try.func46, Try.ntmps46
  go_wp2_with fail
  refine (callPick g M _ _ HR.out (by omega)).mono ?_
  rintro e w1 ⟨k1, rfl, a1, a2, _, hr1, hg1⟩
  have hk5 : k1 < 5 := a2 (by omega)
  have H1 := Lib.hid (And.intro hr1 hg1)
  clear a2 hr1 hg1
  go_wp2_with fail
  refine (callDrawChannels g (M + 1) (1 + k1) n w1 H1.out.1 (by omega) (by omega) (by omega)).mono ?_
  rintro e w2 ⟨A, c, os, rfl, hl9, hcl⟩
  have H2 : Hid (CL w g (M + 31) A c os w2) := ⟨hcl.rdr.more (by omega), grown_trans' H1.out.2 hcl.gr, hcl.own.more H1.out.2.size, hgw, hcl.hc⟩
  clear hcl H1
  go_wp2_with fail
  refine (callOdd g _ _ _ H2.out.rdr (by omega)).mono ?_
  rintro e w3 ⟨o1, rfl, hr3, hg3⟩
  have H3 := Lib.hid (H2.out.step hr3 hg3)
  clear hr3 hg3 H2
  cases o1
  · go_wp2_with fail
    go_ret2
    exact ⟨A, c, os, 1 + k1, rfl, hl9, by omega, by omega, H3.out.more (by omega)⟩
  · go_wp2_with fail
    refine (callPick g _ _ _ (H3.out.alloc _).rdr (by omega)).mono ?_
    rintro e w4 ⟨q, rfl, f3, f4, _, hr4, hg4⟩
    obtain ⟨kk, y, rfl, hy, y0, y1⟩ := litc (w := w4) (g := w3.heap.size) [-1, 6] (gblk hg4 (heap_alloc_new w3 _) (by simp; have := H3.out.rdr.lt; omega)) (lo := -1) (hi := 6) (by simp) f3 (by have := f4 (by omega); simp; omega)
    have hk2 : (kk : Int) < 2 := f4 (by omega)
    have H4 := Lib.hid ((H3.out.alloc _).step hr4 hg4)
    clear hr4 hg4 H3 f4
    go_wp2_with fail
    go_ret2
    exact ⟨A, c, os, y, rfl, hl9, y0, y1, H4.out.more (by omega)⟩
set_option maxRecDepth 100000 in
set_option maxHeartbeats 3200000 in
theorem callDrawFlowsTo (A : Option Addr) (c : Nat) (bs : List Int) (w : World) (hc : bs.length ≤ c) (hm : bs.length ≤ 1048576) (hr : Rd eU8 w w.heap.size A bs) (hby : ∀ x ∈ bs, 0 ≤ x ∧ x ≤ 255) :
    Calls Try.prog 13 #[.slice A bs.length c] w fun e w' =>
      ∃ A c os p n, e = .returned (.tuple #[.slice A (os : List Chn).length c, .int .i64 p, .int .i64 n]) ∧ os.length ≤ 9 ∧ os.length ≤ c ∧ -1 ≤ p ∧ p ≤ 6 ∧ Rd eChn w' w'.heap.size A os ∧ Below w.heap.size w w' := by
  go_enter Try.func13, Try.ntmps13
  go_wp2_with fail
  refine (callOpen A c bs w hc hm hr hby).mono ?_
  rintro e w1 ⟨rfl, hr1, hb1⟩
  have HB := Lib.hid hb1
  have HR := Lib.hid hr1
  clear hr hr1 hb1
  obtain ⟨g, hg⟩ : ∃ g, g = w.heap.size := ⟨_, rfl⟩
  rw [← hg] at HR ⊢
  have HG := Lib.hid hg
  have hgw : w.heap.size ≤ g := by omega
  clear hg
  go_wp2_with fail
  refine (callDrawNet g 0 14 _ HR.out (by omega)).mono ?_
  rintro e w2 ⟨A2, c2, os, p, rfl, hl9, hp0, hp1, hcl⟩
  have H2 := Lib.hid hcl
  have HB2 : Hid (Below w.heap.size w w2) := HB.out.trans ((Below.refl _ _).grown hcl.gr HB.out.size (fun k hk => by cases hk; exact hgw))
  have hgl : g < w1.heap.size := hcl.hg
  have hmx : (p ≤ 1 ∧ decide (p ≤ 1) = true) ∨ (1 < p ∧ decide (p ≤ 1) = false) := by
    by_cases h : p ≤ 1
    · exact .inl ⟨h, decide_eq_true h⟩
    · exact .inr ⟨by omega, decide_eq_false h⟩
  clear hcl HR
  have P1 : Hid (∀ (n : Int) (W : World), Rdr W g 40 → Calls Try.prog 47 #[.pointer (some ⟨g, 0, none⟩), .int .i64 n] W (Picked W g 40 n)) := fun n W h => callPick g 40 n W h (by omega)
  go_wp2_with fail
  all_goals
    refine (P1.out _ _ H2.out.rdr).mono ?_
    rintro e w3 ⟨q, rfl, e1, e2, _, hr3, hg3⟩
    have hq : q < 8 := by have := e2 (by omega); omega
    have H3 := Lib.hid (H2.out.step hr3 hg3)
    have HB3 := Lib.hid (HB2.out.trans ((Below.refl _ _).grown hg3 HB2.out.size (fun k hk => by cases hk; exact hgw)))
    clear hr3 hg3 e2
    go_wp2_with fail
    refine (callPick g _ _ _ H3.out.rdr (by omega)).mono ?_
    rintro e w4 ⟨q2, rfl, f1, f2, _, hr4, hg4⟩
    have hq2 : q2 < 14 := f2 (by omega)
    have H4 := Lib.hid (H3.out.step hr4 hg4)
    have HB4 := Lib.hid (HB3.out.trans ((Below.refl _ _).grown hg4 HB3.out.size (fun k hk => by cases hk; exact hgw)))
    obtain ⟨t, ht⟩ : ∃ t, t = q2 / 13 := ⟨_, rfl⟩
    have ht1 : Int.tdiv q2 13 = t := by rw [Int.tdiv_eq_ediv_of_nonneg f1]; exact ht.symm
    have ht2 : q2 / 13 = t := ht.symm
    have ht3 : 0 ≤ t := by omega
    have ht4 : t ≤ 1 := by omega
    have hwt : IntKind.i64.wrap t = t := IntWalk.i64_in _ (by omega)
    have hw : IntKind.i64.wrap (q - t) = q - t := IntWalk.i64_in _ (by omega)
    clear ht hr4 hg4 f2
    go_wp2_with fail
    go_ret3
    exact ⟨A2, c2, os, p, q - t, rfl, hl9, H4.out.hc, hp0, hp1, H4.out.own.rd, HB4.out⟩
end Go.Proofs.Ytiodpnhokjkjaaa
