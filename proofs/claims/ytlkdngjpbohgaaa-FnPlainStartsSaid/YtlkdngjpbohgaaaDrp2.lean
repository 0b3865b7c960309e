/- What the drawing functions of times and needs leave. -/
import Derived.Test.YtlkdngjpbohgaaaDrw
import Derived.Test.YtlkdngjpbohgaaaBox
namespace Go.Proofs.Ytlkdngjpbohgaaa
open Go.RowKit Go.Sort

set_option maxRecDepth 100000 in
set_option maxHeartbeats 1600000 in
theorem callDrawJobs (g M : Nat) (n : Int) (w : World) (hr : Rdr w g M) (hM : M ≤ 800000) :
    Calls Try.prog 79 #[.pointer (some ⟨g, 0, none⟩), .int .i64 n] w fun e w' =>
      ∃ A c xs, e = .returned (.slice A (xs : List Int).length c) ∧ Own eInt 3 w' w.heap.size (.slice A xs.length c) xs ∧ xs.length ≤ c ∧ xs.length ≤ 13 ∧ Rdr w' g (M + 20) ∧ w.grownBy w' (some g) := by
  have hgw := hr.lt
  have HR := Lib.hid hr
  clear hr
  go_enter Try.func79, Try.ntmps79
  go_wp2_with fail
  refine (callPick g M _ _ (HR.out.alloc _) (by omega)).mono ?_
  rintro e w1 ⟨k1, rfl, a1, a2, _, hr1, hg1⟩
  obtain ⟨j0, rfl⟩ := Int.eq_ofNat_of_zero_le a1
  have hj0 : j0 ≤ 6 := by omega
  clear a1 a2
  have H1 := Lib.hid (And.intro hr1 (grown_trans' (grown_alloc (World.grownBy.refl w _) _) hg1))
  clear hr1 hg1
  go_wp2_with fail
  go_loopw [5, 6] (fun v i wr => ∃ (j : Nat) (xs : List Int), i = .int .i64 j ∧ Own eInt 3 wr w.heap.size v xs ∧ xs.length + j ≤ j0 ∧ Rdr wr g (M + 1 + xs.length) ∧ w.grownBy wr (some g)) (fun _ i _ => (intOf i).toNat)
  case atStart => exact ⟨j0, [], rfl, Own.none_, by simp, H1.out.1, H1.out.2⟩
  case round =>
    obtain ⟨j, xs, rfl, hown, hlen, hrd, hgr⟩ := hrel
    have HH := Lib.hid (And.intro hown (And.intro hrd hgr))
    clear hown hrd hgr H1
    by_cases hj : 0 < j
    · obtain ⟨j', rfl⟩ : ∃ j', j = j' + 1 := ⟨j - 1, by omega⟩
      go_wp2_with fail
      refine (callPick g _ _ _ HH.out.2.1 (by omega)).mono ?_
      rintro e w2 ⟨p, rfl, b1, b2, _, hr2, hg2⟩
      have b3 : p < 12 := by omega
      have H2 := Lib.hid (And.intro (HH.out.1.kept hg2 (fun k hk => by cases hk; exact hgw)) (And.intro hr2 (grown_trans' HH.out.2.2 hg2)))
      clear hr2 hg2 HH b2
      go_wp2_with (at_builtin; refine wpList_app _ eiInt rfl (.tmp 14) (.tmp 18) rfl w.heap.size (H2.out.1.alloc _) (Rd.new (xs := [1 + p]) _ _ _ rfl) rfl rfl rfl (by simp; omega) (by have := H2.out.2.2.size; simp; omega) ?_; intro v' w3 row hown3 hg3 hrow3)
      go_roundw
      case rel =>
        refine ⟨j', xs ++ [1 + p], rfl, hown3, by simp; omega, ?_, grown_new (grown_alloc H2.out.2.2 _) hg3 (fun k hk => (hrow3 k hk).1)⟩
        exact ((H2.out.2.1.alloc _).grown hg3 (fun k hk => by have := (hrow3 k hk).1; omega)).more (by simp only [List.length_append, List.length_cons, List.length_nil]; omega)
      case measure => simp [intOf]
    · have hj0' : j = 0 := by omega
      subst hj0'
      go_wp2_with fail
      refine (callOdd g _ _ _ HH.out.2.1 (by omega)).mono ?_
      rintro e w2 ⟨o1, rfl, hr2, hg2⟩
      have H2 := Lib.hid (And.intro (HH.out.1.kept hg2 (fun k hk => by cases hk; exact hgw)) (And.intro hr2 (grown_trans' HH.out.2.2 hg2)))
      clear hr2 hg2 HH
      cases o1
      · obtain ⟨A, c, hv, hlc, _⟩ := H2.out.1.form
        subst hv
        go_wp2_with fail
        go_ret
        exact ⟨A, c, xs, rfl, H2.out.1, hlc, by omega, H2.out.2.1.more (by omega), H2.out.2.2⟩
      · go_wp2_with fail
        refine (callPick g _ _ _ H2.out.2.1 (by omega)).mono ?_
        rintro e w3 ⟨k, rfl, d1, d2, _, hr3, hg3⟩
        have H3 := Lib.hid (And.intro (H2.out.1.kept hg3 (fun k hk => by cases hk; exact hgw)) (And.intro hr3 (grown_trans' H2.out.2.2 hg3)))
        clear hr3 hg3 H2
        by_cases hk0 : k = 0
        · subst hk0
          go_wp2_with fail
          refine (callPick g _ _ _ (H3.out.2.1.alloc _) (by omega)).mono ?_
          rintro e w4 ⟨q, rfl, q1, q2, _, hr4, hg4⟩
          have hq : q < 2 := by omega
          obtain ⟨kk, x, rfl, hx, _, _⟩ := litc (w := w4) (g := w3.heap.size) [0, 21] (gblk hg4 (heap_alloc_new w3 _) (by have := H3.out.2.2.size; simp; omega)) (lo := 0) (hi := 21) (by simp) q1 (by simpa using hq)
          have H4 := Lib.hid (And.intro ((H3.out.1.alloc (.cells #[.int .i64 0, .int .i64 21] 3)).kept hg4 (fun k hk => by cases hk; exact hgw)) (And.intro hr4 (grown_trans' (grown_alloc H3.out.2.2 _) hg4)))
          clear hr4 hg4 H3 q2
          go_wp2_with (at_builtin; refine wpList_app _ eiInt rfl (.tmp 26) (.tmp 32) rfl w.heap.size (H4.out.1.alloc _) (Rd.new (xs := [x]) _ _ _ rfl) rfl rfl rfl (by simp; omega) (by have := H4.out.2.2.size; simp; omega) ?_; intro v' w5 row hown5 hg5 hrow5)
          obtain ⟨A, c, hv, hlc, _⟩ := hown5.form
          subst hv
          go_ret
          exact ⟨A, c, xs ++ [x], rfl, hown5, hlc, by simp; omega, ((H4.out.2.1.alloc _).grown hg5 (fun k hk => by have := (hrow5 k hk).1; omega)).more (by omega), grown_new (grown_alloc H4.out.2.2 _) hg5 (fun k hk => (hrow5 k hk).1)⟩
        · have hk0' : (k == 0) = false := by rw [beq_eq_false_iff_ne]; exact hk0
          go_wp2_with (at_make; refine wpList_mkE (E := eInt) _ Try.underlying23 (z := .int .i64 0) (m := 8) (by kernel_rfl) (by decide) (0 : Int) rfl rfl _ _ rfl w.heap.size 13 13 13 rfl rfl rfl rfl (by decide) H3.out.2.2.size ?_; intro w4 hown4 hb4)
          go_ret
          exact ⟨_, _, List.replicate 13 (0 : Int), rfl, hown4, by simp, by simp, (H3.out.2.1.next hb4).more (by omega), grown_below H3.out.2.2 hb4⟩

set_option maxRecDepth 100000 in
set_option maxHeartbeats 1600000 in
theorem callDrawPadRuns (A : Option Addr) (c : Nat) (bs : List Int) (w : World) (hc : bs.length ≤ c) (hm : bs.length ≤ 1048576) (hr : Rd eU8 w w.heap.size A bs) (hby : ∀ x ∈ bs, 0 ≤ x ∧ x ≤ 255) :
    Calls Try.prog 62 #[.slice A bs.length c] w fun e w' =>
      ∃ A c ts A' c' ns, e = .returned (.tuple #[.slice A (ts : List Int).length c, .slice A' (ns : List Int).length c']) ∧ Rd eInt w' w'.heap.size A ts ∧ Rd eInt w' w'.heap.size A' ns ∧ ts.length ≤ c ∧ ts.length ≤ 13 ∧ ns.length ≤ c' ∧ ns.length ≤ 14 ∧ Below w.heap.size w w' := by
  go_enter Try.func62, Try.ntmps62
  go_wp2_with fail
  refine (callOpen A c bs _ hc hm hr hby).mono ?_
  rintro e w1 ⟨rfl, hr1, hb1⟩
  have HB := Lib.hid hb1
  have HR := Lib.hid hr1
  have hs1 : w.heap.size < w1.heap.size := hr1.lt
  clear hr1 hb1 hr
  obtain ⟨g, hg⟩ : ∃ g, g = w.heap.size := ⟨_, rfl⟩
  have hgw : w.heap.size ≤ g := by omega
  rw [← hg] at HR hs1 ⊢
  clear hg
  go_wp2_with fail
  refine (callDrawJobs g 0 _ _ HR.out (by omega)).mono ?_
  rintro e w2 ⟨At, ct, ts, rfl, hown2, hct, hlt, hr2, hg2⟩
  have hs2 : w1.heap.size ≤ w2.heap.size := hg2.size
  have hB2 : Below w.heap.size w w2 := HB.out.trans ((Below.refl _ _).grown hg2 (by omega) (fun k hk => by cases hk; omega))
  have HI := Lib.hid (RdI.of_own hown2)
  have HR2 := Lib.hid hr2
  have HB2 := Lib.hid hB2
  clear hown2 hr2 hg2 hB2 HB HR
  obtain ⟨hi, hhi⟩ : ∃ hi, hi = w2.heap.size := ⟨_, rfl⟩
  rw [← hhi] at HI
  have hh2 : hi ≤ w2.heap.size := by omega
  have hh1 : w1.heap.size ≤ hi := by omega
  have hh0 : w.heap.size ≤ hi := by omega
  clear hhi
  go_wp2_with fail
  go_loopw [6, 7] (fun v i wr => ∃ (k : Nat) (xs : List Int), k ≤ ts.length ∧ i = .int .i64 k ∧ xs.length = k ∧ Hid (Own eInt 3 wr hi v xs ∧ Rdr wr g (20 + 2 * k) ∧ Below w.heap.size w wr ∧ RdI eInt wr w1.heap.size hi At ts ∧ hi ≤ wr.heap.size)) (fun _ i _ => ts.length - (intOf i).toNat)
  case atStart => exact ⟨0, [], by omega, rfl, rfl, Own.none_, by simpa using HR2.out.alloc _, bel_trans HB2.out (below1 _ _), HI.out.alloc _ hh2, by simp; omega⟩
  case round =>
    obtain ⟨k, xs, hk, rfl, hxl, HH⟩ := hrel
    by_cases hkt : k < ts.length
    · have hd : decide ((k : Int) < ts.length) = true := decide_eq_true (by omega)
      go_wp2_with fail
      refine (callPick g _ _ _ HH.out.2.1 (by omega)).mono ?_
      rintro e w3 ⟨p, rfl, a1, a2, _, hr3, hg3⟩
      have H3 := Lib.hid (And.intro ((HH.out.1.kept hg3 (fun k hk => by cases hk; omega)).alloc (.cells #[.int .i64 p, .int .i64 9223372036854775807] 3)) (And.intro (hr3.alloc (.cells #[.int .i64 p, .int .i64 9223372036854775807] 3)) (And.intro ((HH.out.2.2.1.trans ((Below.refl _ _).grown hg3 (by have := HH.out.2.2.2.2; omega) (fun k hk => by cases hk; omega))).alloc (Nat.le_trans (HH.out.2.2.1.size) hg3.size) (.cells #[.int .i64 p, .int .i64 9223372036854775807] 3)) (And.intro ((HH.out.2.2.2.1.keep hg3 (fun k hk => by cases hk; left; omega) HH.out.2.2.2.2).alloc (.cells #[.int .i64 p, .int .i64 9223372036854775807] 3) (Nat.le_trans HH.out.2.2.2.2 hg3.size)) (Nat.le_trans HH.out.2.2.2.2 hg3.size)))))
      have hs3 : g < w3.heap.size := hr3.lt
      clear hr3 hg3 HH a2
      go_wp2_with fail
      refine (callPick g _ _ _ H3.out.2.1 (by omega)).mono ?_
      rintro e w4 ⟨q, rfl, q1, q2, _, hr4, hg4⟩
      have hq : q < 9 := by omega
      have hL := gblk hg4 (heap_alloc_new w3 (.cells #[.int .i64 p, .int .i64 9223372036854775807] 3)) (by simp; omega)
      have hx2 : ∃ (kk : Nat) (x : Int), q / 8 = (kk : Int) ∧ w4.cell? ⟨w3.heap.size, kk, none⟩ = some (.int .i64 x) ∧ kk < 2 := by
        obtain ⟨z0, z1, _, _, _⟩ := cell2 hL
        by_cases h8 : q < 8
        · exact ⟨0, p, by omega, z0, by omega⟩
        · exact ⟨1, 9223372036854775807, by omega, z1, by omega⟩
      obtain ⟨kk, x, hkk, hx, hkk2⟩ := hx2
      have hkk0 : (0 : Int) ≤ (kk : Int) := by omega
      have hkk1 : (kk : Int) < 2 := by omega
      have H4 := Lib.hid (And.intro (H3.out.1.kept hg4 (fun k hk => by cases hk; omega)) (And.intro hr4 (And.intro (H3.out.2.2.1.trans ((Below.refl _ _).grown hg4 (by simp; have := H3.out.2.2.2.2; omega) (fun k hk => by cases hk; omega))) (And.intro (H3.out.2.2.2.1.keep hg4 (fun k hk => by cases hk; left; omega) (by simp; have := H3.out.2.2.2.2; omega)) (Nat.le_trans (Nat.le_trans H3.out.2.2.2.2 (by simp)) hg4.size)))))
      have hs4 := H4.out.2.2.2.2
      clear hr4 hg4 H3 q2 hL
      go_wp2_with (at_builtin; refine wpList_app _ eiInt rfl (.tmp 19) (.tmp 28) rfl hi (H4.out.1.alloc _) (Rd.new (xs := [x]) _ _ _ rfl) rfl rfl rfl (by simp; omega) (by simp; omega) ?_; intro v' w5 row hown5 hg5 hrow5)
      have hrw : ∀ k, row = some k → hi ≤ k := fun k hk => (hrow5 k hk).1
      have H5 := Lib.hid (And.intro hown5 (And.intro ((H4.out.2.1.alloc (.cells #[.int .i64 x] 3)).grown hg5 (fun k hk => by have := hrw k hk; omega)) (And.intro ((H4.out.2.2.1.alloc (H4.out.2.2.1.size) (.cells #[.int .i64 x] 3)).trans ((Below.refl _ _).grown hg5 (by simp; omega) (fun k hk => by have := hrw k hk; omega))) (And.intro ((H4.out.2.2.2.1.alloc (.cells #[.int .i64 x] 3) hs4).keep hg5 (fun k hk => by right; exact hrw k hk) (by simp; omega)) (Nat.le_trans (Nat.le_trans hs4 (by simp)) hg5.size)))))
      clear hown5 hg5 hrow5 H4 hrw hkk
      go_roundw
      case rel => exact ⟨k + 1, xs ++ [x], by omega, by go_num, by rw [List.length_append, hxl]; rfl, H5.out.1, H5.out.2.1.more (by omega), H5.out.2.2⟩
      case measure => simp [intOf]; omega
    · have hke : k = ts.length := by omega
      subst hke
      have hd : decide ((ts.length : Int) < ts.length) = false := by simp
      go_wp2_with fail
      refine (callOdd g _ _ _ HH.out.2.1 (by omega)).mono ?_
      rintro e w3 ⟨o1, rfl, hr3, hg3⟩
      have H3 := Lib.hid (And.intro (HH.out.1.kept hg3 (fun k hk => by cases hk; omega)) (And.intro hr3 (And.intro (HH.out.2.2.1.trans ((Below.refl _ _).grown hg3 (by have := HH.out.2.2.2.2; omega) (fun k hk => by cases hk; omega))) (And.intro (HH.out.2.2.2.1.keep hg3 (fun k hk => by cases hk; left; omega) HH.out.2.2.2.2) (Nat.le_trans HH.out.2.2.2.2 hg3.size)))))
      have hs3 := H3.out.2.2.2.2
      clear hr3 hg3 HH
      go_upto_if 31 with (fail)
      go_cut [6] (fun v wx => ∃ A c ys, v = .slice A (ys : List Int).length c ∧ ys.length ≤ c ∧ ys.length ≤ 14 ∧ Hid (Own eInt 3 wx hi v ys ∧ Rdr wx g 60 ∧ Below w.heap.size w wx ∧ RdI eInt wx w1.heap.size hi At ts ∧ hi ≤ wx.heap.size))
      case first =>
        cases o1
        · obtain ⟨A3, c3, hv, hc3, _⟩ := H3.out.1.form
          subst hv
          go_wp2_with fail
          go_meet
          case rel => exact ⟨A3, c3, xs, rfl, hc3, by omega, H3.out.1, H3.out.2.1.more (by omega), H3.out.2.2⟩
        · go_wp2_with (at_builtin; refine wpList_app _ eiInt rfl (.tmp 32) (.tmp 33) rfl hi (H3.out.1.alloc _) (Rd.new (xs := [(-1 : Int)]) _ _ _ rfl) rfl rfl rfl (by simp; omega) (by simp; omega) ?_; intro v' w5 row hown5 hg5 hrow5)
          have hrw : ∀ k, row = some k → hi ≤ k := fun k hk => (hrow5 k hk).1
          obtain ⟨A5, c5, hv, hc5, _⟩ := hown5.form
          subst hv
          go_meet
          case rel => exact ⟨A5, c5, xs ++ [-1], rfl, hc5, by simp; omega, hown5, ((H3.out.2.1.alloc _).grown hg5 (fun k hk => by have := hrw k hk; omega)).more (by omega), (H3.out.2.2.1.alloc (H3.out.2.2.1.size) _).trans ((Below.refl _ _).grown hg5 (by simp; omega) (fun k hk => by have := hrw k hk; omega)), (H3.out.2.2.2.1.alloc _ hs3).keep hg5 (fun k hk => by right; exact hrw k hk) (by simp; omega), Nat.le_trans (Nat.le_trans hs3 (by simp)) hg5.size⟩
      case rest =>
        obtain ⟨A5, c5, ys, rfl, hc5, hl5, HY⟩ := hcut
        clear H3 hs3
        by_cases hy : 0 < ys.length
        · have hdy : decide ((0 : Int) < (ys.length : Int)) = true := decide_eq_true (by omega)
          go_wp2_with fail
          refine (callOdd g _ _ _ HY.out.2.1 (by omega)).mono ?_
          rintro e w6 ⟨o2, rfl, hr6, hg6⟩
          have H6 := Lib.hid (And.intro (HY.out.1.kept hg6 (fun k hk => by cases hk; omega)) (And.intro hr6 (And.intro (HY.out.2.2.1.trans ((Below.refl _ _).grown hg6 (by have := HY.out.2.2.2.2; omega) (fun k hk => by cases hk; omega))) (And.intro (HY.out.2.2.2.1.keep hg6 (fun k hk => by cases hk; left; omega) HY.out.2.2.2.2) (Nat.le_trans HY.out.2.2.2.2 hg6.size)))))
          clear hr6 hg6 HY
          cases o2
          · go_wp2_with fail
            go_ret2
            exact ⟨At, ct, ts, A5, c5, ys, rfl, (H6.out.2.2.2.1.full H6.out.2.2.2.2), H6.out.1.rd, hct, hlt, hc5, hl5, H6.out.2.2.1⟩
          · have hne : ys ≠ [] := by intro e; simp [e] at hy
            obtain ⟨A', c', hv, _, hf⟩ := H6.out.1.form
            injection hv with hA _ hcc
            subst hA
            subst hcc
            obtain ⟨ga, rfl, hga1, hga2⟩ := hf hne
            clear hf
            obtain ⟨bb, oo, hA, _, h2⟩ := H6.out.1.rd.at1 (k := 0) rfl hy rfl
            simp only [Option.some.injEq, Addr.mk.injEq, and_true] at hA
            obtain ⟨rfl, rfl⟩ := hA
            simp only [Nat.add_zero] at h2
            have hfz := H6.out.1.frozen (o := 0) hne
            have HO := Lib.hid (H6.out.1.set (E := eInt) (i := 0) (j := 0) (x := ys[0]) (y := -1) (u := .int .i64 (-1)) (List.getElem?_eq_getElem hy) (by decide) rfl)
            go_wp2_with fail
            go_ret2
            refine ⟨At, ct, ts, some ⟨ga, 0, none⟩, c5, ys.set 0 (-1), by simp, ?_, ?_, hct, hlt, by simpa using hc5, by simpa using hl5, H6.out.2.2.1.setCell (by show w.heap.size ≤ ga; omega) _⟩
            · exact ((H6.out.2.2.2.1.keep (gset (w := w6) (g := ga) 0 (.int .i64 (-1))) (fun k hk => by cases hk; right; exact hga1) H6.out.2.2.2.2).full (by simpa using H6.out.2.2.2.2))
            · have := HO.out.rd
              simpa using this
        · have hdy : decide ((0 : Int) < (ys.length : Int)) = false := decide_eq_false (by omega)
          go_wp2_with fail
          go_ret2
          exact ⟨At, ct, ts, A5, c5, ys, rfl, (HY.out.2.2.2.1.full HY.out.2.2.2.2), HY.out.1.rd, hct, hlt, hc5, hl5, HY.out.2.2.1⟩

theorem callDrawPlainStarts (A : Option Addr) (c : Nat) (bs : List Int) (w : World) (hc : bs.length ≤ c) (hm : bs.length ≤ 1048576) (hr : Rd eU8 w w.heap.size A bs) (hby : ∀ x ∈ bs, 0 ≤ x ∧ x ≤ 255) :
    Calls Try.prog 26 #[.slice A bs.length c] w fun e w' =>
      ∃ A c ts A' c' ns, e = .returned (.tuple #[.slice A (ts : List Int).length c, .slice A' (ns : List Int).length c']) ∧ Rd eInt w' w'.heap.size A ts ∧ Rd eInt w' w'.heap.size A' ns ∧ ts.length ≤ c ∧ ts.length ≤ 13 ∧ ns.length ≤ c' ∧ ns.length ≤ 14 ∧ Below w.heap.size w w' := by
  have HC := Lib.hid (callDrawPadRuns A c bs w hc hm hr hby)
  clear hr hby
  go_enter Try.func26, Try.ntmps26
  go_wp2_with fail
  refine HC.out.mono ?_
  rintro e w1 ⟨A1, c1, ts, A2, c2, ns, rfl, h1, h2, h3, h4, h5, h6, hb⟩
  have HH := Lib.hid (And.intro h1 (And.intro h2 hb))
  clear h1 h2 hb
  go_wp2
  go_ret2
  exact ⟨A1, c1, ts, A2, c2, ns, rfl, HH.out.1, HH.out.2.1, h3, h4, h5, h6, HH.out.2.2⟩
end Go.Proofs.Ytlkdngjpbohgaaa
