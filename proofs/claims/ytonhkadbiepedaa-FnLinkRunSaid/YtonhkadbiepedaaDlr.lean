/- What DrawLinkRun leaves. -/
import Derived.Test.YtonhkadbiepedaaDrw
import Derived.Test.YtonhkadbiepedaaBox
namespace Go.Proofs.Ytonhkadbiepedaa
open Go.RowKit Go.Sort

/-- The reader, and a list of the call's own. -/
structure DLR (T : TypeId) (w : World) (g M : Nat) (v : Value) (out : List Int) (wx : World) : Prop where
  rdr : Rdr wx g M
  bel : Below w.heap.size w wx
  own : Own eInt T wx (g + 1) v out
  hg : w.heap.size ≤ g
section
variable {T : TypeId} {w wx w' : World} {g M M' : Nat} {v v' : Value} {out out' : List Int}
theorem DLR.step (s : DLR T w g M v out wx) (hr : Rdr w' g M') (hg : wx.grownBy w' (some g)) : DLR T w g M' v out w' :=
  ⟨hr, s.bel.trans ((Below.refl _ _).grown hg s.bel.size (fun k hk => by cases hk; exact s.hg)), s.own.kept hg (fun k hk => by cases hk; omega), s.hg⟩
theorem DLR.next (s : DLR T w g M v out wx) (hb : Below wx.heap.size wx w') : DLR T w g M v out w' :=
  ⟨s.rdr.next hb, bel_trans s.bel hb, s.own.next hb, s.hg⟩
theorem DLR.more (s : DLR T w g M v out wx) (hM : M ≤ M') : DLR T w g M' v out wx := ⟨s.rdr.more hM, s.bel, s.own, s.hg⟩
theorem DLR.app {row : Option Nat} (s : DLR T w g M v out wx) (ho : Own eInt T w' (g + 1) v' out') (hg : wx.grownBy w' row) (hrow : ∀ k, row = some k → g + 1 ≤ k) : DLR T w g M v' out' w' :=
  ⟨s.rdr.grown hg (fun k hk => by have := hrow k hk; omega), s.bel.trans ((Below.refl _ _).grown hg s.bel.size (fun k hk => by have := hrow k hk; have := s.hg; omega)), ho, s.hg⟩
theorem DLR.new (s : DLR T w g M v out wx) (ho : Own eInt T w' (g + 1) v' out') (hb : Below wx.heap.size wx w') : DLR T w g M v' out' w' :=
  ⟨s.rdr.next hb, bel_trans s.bel hb, ho, s.hg⟩
end

set_option maxRecDepth 100000 in
set_option maxHeartbeats 3200000 in
theorem callDrawLinkRun (A : Option Addr) (c : Nat) (bs : List Int) (w : World) (hc : bs.length ≤ c) (hm : bs.length ≤ 1048576) (hr : Rd eU8 w w.heap.size A bs) (hby : ∀ x ∈ bs, 0 ≤ x ∧ x ≤ 255) :
    Calls Try.prog 26 #[.slice A bs.length c] w fun e w' =>
      ∃ d A c vs, e = .returned (.tuple #[.int .i64 d, .slice A (vs : List Int).length c]) ∧ Rd eInt w' w'.heap.size A vs ∧ vs.length ≤ c ∧ vs.length ≤ 100 ∧ Below w.heap.size w w' := by
  go_enter Try.func26, Try.ntmps26
  go_wp2_with fail
  refine (callOpen A c bs _ hc hm hr hby).mono ?_
  rintro e w0 ⟨rfl, hr1, hb1⟩
  have S0 : Hid (DLR 3 w w.heap.size 0 (.slice none 0 0) [] w0) := ⟨hr1, hb1, Own.none_, Nat.le_refl _⟩
  obtain ⟨g, hg⟩ : ∃ g, g = w.heap.size := ⟨_, rfl⟩
  rw [← hg] at S0 ⊢
  have HG := Lib.hid hg
  clear hr1 hb1 hr hg
  go_wp2_with fail
  refine (callPick g _ _ _ S0.out.rdr (by omega)).mono ?_
  rintro e w1 ⟨k1, rfl, a1, a2, _, hr1, hg1⟩
  have a3 : k1 < 9 := a2 (by omega)
  have S1 := Lib.hid (S0.out.step hr1 hg1)
  clear hr1 hg1 a2 S0
  go_wp2_with fail
  refine (callPick g _ _ _ S1.out.rdr (by omega)).mono ?_
  rintro e w2 ⟨k2, rfl, b1, b2, _, hr2, hg2⟩
  have b3 : k2 < 51 := b2 (by omega)
  have S2 := Lib.hid ((S1.out.step hr2 hg2).next (below2 _ (.cells #[.int .i64 k1, .int .i64 k2, .int .i64 (-1), .int .i64 51] 3) (.cells #[.int .i64 0, .int .i64 0, .int .i64 0, .int .i64 1, .int .i64 1, .int .i64 2, .int .i64 3] 3)))
  have L4 := Lib.hid (alloc_at0 w2 (.cells #[.int .i64 k1, .int .i64 k2, .int .i64 (-1), .int .i64 51] 3) (.cells #[.int .i64 0, .int .i64 0, .int .i64 0, .int .i64 1, .int .i64 1, .int .i64 2, .int .i64 3] 3))
  have L7 := Lib.hid (alloc_at1 w2 (.cells #[.int .i64 k1, .int .i64 k2, .int .i64 (-1), .int .i64 51] 3) (.cells #[.int .i64 0, .int .i64 0, .int .i64 0, .int .i64 1, .int .i64 1, .int .i64 2, .int .i64 3] 3))
  have hgw2 : g < w2.heap.size := hr2.lt
  clear hr2 hg2 b2 S1
  go_wp2_with fail
  refine (callPick g _ _ _ S2.out.rdr (by omega)).mono ?_
  rintro e w3 ⟨q, rfl, q1, q2, _, hr3, hg3⟩
  have q3 : q < 7 := q2 (by omega)
  have S3 := Lib.hid (S2.out.step hr3 hg3)
  have M4 := Lib.hid (gblk hg3 L4.out (by simp; omega))
  have M7 := Lib.hid (gblk hg3 L7.out (by simp; omega))
  obtain ⟨kk, j, rfl, hx7, j1, j2⟩ := litc (w := w3) (g := w2.heap.size + 1) [0, 0, 0, 1, 1, 2, 3] M7.out (lo := 0) (hi := 3) (by simp) q1 (by simpa using q3)
  obtain ⟨jj, d, rfl, hx4, d1, d2⟩ := litc (w := w3) (g := w2.heap.size) [k1, k2, -1, 51] M4.out (lo := -1) (hi := 51) (by intro x hx; simp only [List.mem_cons, List.not_mem_nil, or_false] at hx; omega) (q := j) j1 (by simp; omega)
  have S3a := Lib.hid ((S3.out.next (below1 _ (.cells #[] 3))))
  clear hr3 hg3 q2 S2 L4 L7 M4 M7
  go_wp2_with fail
  refine (callPick g _ _ _ S3a.out.rdr (by omega)).mono ?_
  rintro e w4 ⟨k4, rfl, c1, c2, _, hr4, hg4⟩
  obtain ⟨j0, rfl⟩ := Int.eq_ofNat_of_zero_le c1
  have hj0 : j0 < 40 := by omega
  have S4 := Lib.hid ((S3a.out.step hr4 hg4).new (v' := .slice (some ⟨w3.heap.size, 0, none⟩) 0 0) Own.none_ (Below.refl _ _))
  clear hr4 hg4 c1 c2 S3 S3a hx7 hx4
  go_wp2_with fail
  go_loopw [6, 7] (fun v i wr => ∃ (j : Nat) (vs : List Int), i = .int .i64 j ∧ vs.length + j ≤ j0 ∧ Hid (DLR 3 w g (4 + vs.length) v vs wr)) (fun _ i _ => (intOf i).toNat)
  case atStart => exact ⟨j0, [], rfl, by simp, S4.out⟩
  case round =>
    obtain ⟨j, vs, rfl, hjj, SR⟩ := hrel
    clear S4
    by_cases hj : 0 < j
    · obtain ⟨j', rfl⟩ : ∃ j', j = j' + 1 := ⟨j - 1, by omega⟩
      go_wp2_with fail
      refine (callPick g _ _ _ SR.out.rdr (by omega)).mono ?_
      rintro e w5 ⟨p, rfl, p1, p2, _, hr5, hg5⟩
      have S5 := Lib.hid ((SR.out.step hr5 hg5).next (below1 _ (.cells #[.int .i64 p] 3)))
      have hgw5 : g < w5.heap.size := hr5.lt
      clear hr5 hg5 p2
      go_wp2_with (at_builtin; refine wpList_app _ eiInt rfl (.tmp 29) (.tmp 32) rfl (g + 1) S5.out.own (Rd.new (E := eInt) (xs := [p]) _ _ _ rfl) rfl rfl rfl (by simp only [List.length_cons, List.length_nil]; omega) (by simp; omega) ?_; intro v' w7 row hown7 hg7 hrow7)
      go_roundw
      case rel => exact ⟨j', vs ++ [p], by go_num, by simp; omega, by have := (S5.out.app hown7 hg7 (fun k hk => (hrow7 k hk).1)).more (M' := 4 + (vs ++ [p]).length) (by simp; omega); exact this⟩
      case measure => simp [intOf]
    · have hj0' : j = 0 := by omega
      subst hj0'
      go_wp2_with fail
      refine (callOdd g _ _ _ SR.out.rdr (by omega)).mono ?_
      rintro e w5 ⟨o1, rfl, hr5, hg5⟩
      have S5 := Lib.hid ((SR.out.step hr5 hg5).more (M' := 100) (by omega))
      have hv40 : vs.length ≤ 40 := by omega
      clear hr5 hg5 SR
      go_upto_if 35 with (fail)
      go_cut [6] (fun s6 wx => ∃ (vs : List Int), vs.length ≤ 41 ∧ Hid (DLR 3 w g 102 s6 vs wx))
      case first =>
        cases o1
        · go_wp2_with fail
          go_meet
          case rel => exact ⟨vs, by omega, S5.out.more (by omega)⟩
        · have S5a := Lib.hid (S5.out.next (below1 _ (.cells #[.int .i64 (-1), .int .i64 256] 3)))
          have hgw5 : g < w5.heap.size := S5.out.rdr.lt
          go_wp2_with fail
          refine (callPick g _ _ _ S5a.out.rdr (by omega)).mono ?_
          rintro e w6 ⟨q, rfl, q1, q2, _, hr6, hg6⟩
          have q3 : q < 2 := q2 (by omega)
          obtain ⟨kk, x, rfl, hx, _, _⟩ := litc (w := w6) (g := w5.heap.size) [-1, 256] (gblk hg6 (heap_alloc_new w5 _) (by simp; omega)) (lo := -1) (hi := 256) (by simp) q1 (by simpa using q3)
          have S6 := Lib.hid ((S5a.out.step hr6 hg6).next (below1 _ (.cells #[.int .i64 x] 3)))
          have hgw6 : g < w6.heap.size := hr6.lt
          clear hr6 hg6 q2 S5 S5a
          go_wp2_with (at_builtin; refine wpList_app _ eiInt rfl (.tmp 36) (.tmp 42) rfl (g + 1) S6.out.own (Rd.new (E := eInt) (xs := [x]) _ _ _ rfl) rfl rfl rfl (by simp only [List.length_cons, List.length_nil]; omega) (by simp; omega) ?_; intro v' w7 row hown7 hg7 hrow7)
          go_meet
          case rel => exact ⟨vs ++ [x], by simp; omega, by have := (S6.out.app hown7 hg7 (fun k hk => (hrow7 k hk).1)).more (M' := 102) (by omega); exact this⟩
      case rest =>
        clear S5 hv40
        obtain ⟨vs, hv41, SR⟩ := hcut
        go_wp2_with fail
        refine (callOdd g _ _ _ SR.out.rdr (by omega)).mono ?_
        rintro e w6 ⟨o1, rfl, hr6, hg6⟩
        have S6 := Lib.hid (SR.out.step hr6 hg6)
        have hgw6 : g < w6.heap.size := hr6.lt
        clear hr6 hg6 SR
        go_upto_if 45 with (fail)
        go_cut [6] (fun s6 wx => ∃ (vs : List Int), vs.length ≤ 41 ∧ Hid (DLR 3 w g 110 s6 vs wx))
        case first =>
          cases o1
          · go_wp2_with fail
            go_meet
            case rel => exact ⟨vs, by omega, S6.out.more (by omega)⟩
          · go_wp2_with (at_make; refine wpList_mkE (E := eInt) _ Try.underlying23 (z := .int .i64 0) (m := 8) (by kernel_rfl) (by decide) (0 : Int) rfl rfl _ _ rfl (g + 1) 41 41 41 rfl rfl rfl rfl (by omega) (by omega) ?_; intro w7 hown7 hb7)
            go_meet
            case rel => exact ⟨List.replicate 41 0, by simp, (S6.out.new hown7 hb7).more (by omega)⟩
        case rest =>
          clear S6
          obtain ⟨vs, hv41, SR⟩ := hcut
          obtain ⟨A9, c9, hv9, hc9, _⟩ := SR.out.own.form
          subst hv9
          have HRD := Lib.hid SR.out.own.rd
          have HBL := Lib.hid SR.out.bel
          go_wp2_with fail
          go_ret2
          exact ⟨d, A9, c9, vs, rfl, HRD.out, hc9, by omega, HBL.out⟩
end Go.Proofs.Ytonhkadbiepedaa
