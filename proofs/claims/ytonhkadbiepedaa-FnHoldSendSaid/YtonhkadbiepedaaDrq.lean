/- What the drawing functions of holds leave. -/
import Derived.Test.YtonhkadbiepedaaDrw
import Derived.Test.YtonhkadbiepedaaBox
import Derived.Test.YtonhkadbiepedaaStp
import Derived.Deep.RegionLaw
namespace Go.Proofs.Ytonhkadbiepedaa
open Go.RowKit Go.Sort

/-- The reader, the result's box, and a hold in a box. -/
structure SQ (w0 : World) (g M X : Nat) (A : Option Addr) (c : Nat) (h : List Int) (wx : World) : Prop where
  rdr : Rdr wx g M
  gr : w0.grownBy wx (some g)
  res : wx.heap[w0.heap.size]? = some (.cells #[.slice none 0 0] 25 (0, 0))
  box : wx.heap[X]? = some (.cells #[.slice A h.length c] 25 (0, 0))
  own : Own eInt 3 wx (w0.heap.size + 1) (.slice A h.length c) h
  hg : g < w0.heap.size
  hX : w0.heap.size < X
  hc : h.length ≤ c
section
variable {w0 wx w' : World} {g M M' X : Nat} {A A' : Option Addr} {c c' : Nat} {h h' : List Int}
theorem SQ.step (s : SQ w0 g M X A c h wx) (hr : Rdr w' g M') (hg : wx.grownBy w' (some g)) : SQ w0 g M' X A c h w' :=
  ⟨hr, grown_trans' s.gr hg, gblk hg s.res (by have := s.hg; simp; omega), gblk hg s.box (by have := s.hg; have := s.hX; simp; omega), s.own.kept hg (fun k hk => by cases hk; have := s.hg; omega), s.hg, s.hX, s.hc⟩
theorem SQ.drew (s : SQ w0 g M X A c h wx) : SQ w0 g M X A c h wx.drew := ⟨s.rdr, ⟨s.gr.os, s.gr.tape, s.gr.output, s.gr.size, s.gr.block⟩, s.res, s.box, s.own, s.hg, s.hX, s.hc⟩
theorem SQ.next (s : SQ w0 g M X A c h wx) (hb : Below wx.heap.size wx w') : SQ w0 g M X A c h w' := s.step (s.rdr.next hb) (grownBy_of_below hb _)
theorem SQ.more (s : SQ w0 g M X A c h wx) (hM : M ≤ M') : SQ w0 g M' X A c h wx := ⟨s.rdr.more hM, s.gr, s.res, s.box, s.own, s.hg, s.hX, s.hc⟩
/-- Behind an append onto what the box holds: 'row' is the list's own block. -/
theorem SQ.app {v : Value} {row : Option Nat} (s : SQ w0 g M X A c h wx) (hg : wx.grownBy w' row) (hrow : ∀ k, row = some k → w0.heap.size + 1 ≤ k ∧ v.ownBlock = some k ∧ ∃ cur, wx.heap[k]? = some (.cells cur 3 (0, 0))) :
    Rdr w' g M ∧ w0.grownBy w' (some g) ∧ w'.heap[w0.heap.size]? = some (.cells #[.slice none 0 0] 25 (0, 0)) ∧ w'.heap[X]? = some (.cells #[.slice A h.length c] 25 (0, 0)) := by
  have h1 := s.hg
  refine ⟨s.rdr.grown hg (fun k hk => by have := (hrow k hk).1; omega), grown_new s.gr hg (fun k hk => by have := (hrow k hk).1; omega), gblk hg s.res (fun e => by have := (hrow _ e.symm).1; omega), gblk hg s.box (fun e => ?_)⟩
  obtain ⟨cur, hcur⟩ := (hrow _ e.symm).2.2
  have hq := s.box
  rw [hcur] at hq
  injection hq with hq
  injection hq with _ hq
  exact absurd hq (by decide)
theorem SQ.mk' {v0 : Value} (hr : Rdr wx g M) (gr : w0.grownBy wx (some g)) (res : wx.heap[w0.heap.size]? = some (.cells #[.slice none 0 0] 25 (0, 0))) (box : wx.heap[X]? = some (.cells #[v0] 25 (0, 0))) (ho : Own eInt 3 wx (w0.heap.size + 1) (.slice A' h'.length c') h') (hgX : g < w0.heap.size) (hX : w0.heap.size < X) (hc' : h'.length ≤ c') : SQ w0 g M X A' c' h' (wx.setCell ⟨X, 0, none⟩ (.slice A' h'.length c')) :=
  ⟨hr.setNew (by show g < X; omega) _, grown_setNew gr (p := ⟨X, 0, none⟩) (by show w0.heap.size ≤ X; omega) _, gblk (gset 0 _) res (by simp; omega), set1 box, ho.keptOther (gset 0 _) (fun k hk => by cases hk; exact .inr ⟨_, _, _, box, by decide⟩), hgX, hX, hc'⟩
end

set_option maxRecDepth 100000 in
set_option maxHeartbeats 3200000 in
theorem callDrawHold (g M : Nat) (n : Int) (w : World) (hr : Rdr w g M) (hM : M ≤ 800000) :
    Calls Try.prog 32 #[.pointer (some ⟨g, 0, none⟩), .int .i64 n] w fun e w' =>
      ∃ A c h kind size, e = .returned (.tuple #[.agg #[.slice A (h : List Int).length c], .int .i64 kind, .int .i64 size]) ∧ Own eInt 3 w' w.heap.size (.slice A h.length c) h ∧ h.length ≤ c ∧ h.length ≤ 8 ∧ Rdr w' g (M + 20) ∧ w.grownBy w' (some g) := by
  have hgw := hr.lt
  have HR := Lib.hid hr
  clear hr
  go_enter Try.func32, Try.ntmps32
  go_wp2_with fail
  refine (callPick g M _ _ (HR.out.alloc _) (by omega)).mono ?_
  rintro e w1 ⟨k1, rfl, a1, a2, _, hr1, hg1⟩
  have ha : k1 < 3 := by omega
  have K1 := Lib.hid (gblk hg1 (heap_alloc_new w (.cells #[.slice none 0 0] 25)) (by simp; omega))
  have H1 := Lib.hid (And.intro hr1 (grown_trans' (grown_alloc (World.grownBy.refl w _) _) hg1))
  clear hr1 hg1 a2
  go_wp2_with fail
  refine (callPick g _ _ _ H1.out.1 (by omega)).mono ?_
  rintro e w2 ⟨k2, rfl, b1, b2, _, hr2, hg2⟩
  have hb : k2 < 4 := by omega
  have K2 := Lib.hid (gblk hg2 K1.out (by simp; omega))
  have H2 := Lib.hid (And.intro hr2 (grown_trans' H1.out.2 hg2))
  have hs2 : w.heap.size < w2.heap.size := (cell1 K2.out).2.2
  clear hr2 hg2 b2 H1 K1
  go_upto_if 18 with (fail)
  go_cut [8] (fun v wx => ∃ s : Nat, v = .int .i64 s ∧ 1 ≤ s ∧ s ≤ 4 ∧ wx = w2)
  case first =>
    obtain ⟨k2n, rfl⟩ := Int.eq_ofNat_of_zero_le b1
    by_cases hk : k1 = 0
    · subst hk
      go_wp2_with fail
      go_meet
      case rel => exact ⟨1, rfl, by omega, by omega, rfl⟩
    · have hkb : (1 + k1 == 1) = false := by rw [beq_eq_false_iff_ne]; omega
      go_wp2_with fail
      go_meet
      case rel => exact ⟨1 + k2n, by go_num, by omega, by omega, rfl⟩
  case rest =>
    obtain ⟨s, rfl, hs1, hs4, rfl⟩ := hcut
    have S3 : Hid (SQ w g (M + 1 + 1) wc.heap.size none 0 [] (wc.alloc (.cells #[.slice none 0 0] 25))) :=
      ⟨H2.out.1.alloc _, grown_alloc H2.out.2 _, blkc K2.out (below1 _ _), heap_alloc_new wc _, Own.none_, hgw, hs2, Nat.le_refl _⟩
    clear H2 K2 b1 hb
    go_wp2_with fail
    refine (callPick g _ _ _ S3.out.rdr (by omega)).mono ?_
    rintro e w4 ⟨k4, rfl, c1, c2, _, hr4, hg4⟩
    obtain ⟨j0, rfl⟩ := Int.eq_ofNat_of_zero_le c1
    have hj0 : j0 ≤ 4 := by omega
    have S4 := Lib.hid (S3.out.step hr4 hg4)
    obtain ⟨X, hX⟩ : ∃ X, X = wc.heap.size := ⟨_, rfl⟩
    rw [← hX] at S4 ⊢
    clear hr4 hg4 c1 c2 S3 hX
    go_wp2_with fail
    go_loopw [10] (fun i wr => ∃ (j : Nat) (A : Option Addr) (c : Nat) (h : List Int), i = .int .i64 j ∧ h.length + j ≤ j0 ∧ Hid (SQ w g (M + 3 + h.length) X A c h wr)) (fun i _ => (intOf i).toNat)
    case atStart => exact ⟨j0, none, 0, [], rfl, by simp, S4.out⟩
    case round =>
      obtain ⟨j, A, c, h, rfl, hjj, SR⟩ := hrel
      clear S4
      obtain ⟨x1, x2, x3⟩ := cell1 SR.out.box
      have hsr := SR.out.gr.size
      by_cases hj : 0 < j
      · obtain ⟨j', rfl⟩ : ∃ j', j = j' + 1 := ⟨j - 1, by omega⟩
        have hM1 : M + 3 + h.length ≤ 1000000 := by omega
        go_wp2_with fail
        go_region_law (first
            | (refine step_app (n := 1) (c := 1) eiInt rfl (.tmp 29) (.tmp 32) rfl (w.heap.size + 1) (S5.out _).own (Rd.new (E := eInt) (xs := [p]) w5 3 #[.int .i64 p] rfl) rfl (by simp [Act.eval, Act.put]) (by simp [Act.eval, Act.put]) hroom1.out hbase1.out ?_; intro v' w6 row hown6 hg6 hrow6; obtain ⟨A6, c6, hv6, hc6, _⟩ := hown6.form; subst hv6; have hq6 := (S5.out p).app hg6 hrow6; have n6 := (cell1 hq6.2.2.2).1; have n7 := (cell1 hq6.2.2.2).2.1; have S6 := Lib.hid (SQ.mk' hq6.1 hq6.2.1 hq6.2.2.1 hq6.2.2.2 hown6 hgw SR.out.hX hc6))
            | (go_simp; go_at_call 43; refine (callPick g _ _ _ SR.out.drew.rdr hM1).mono ?_; rintro e w5 ⟨p, rfl, d1, d2, _, hr5, hg5⟩; have n5 : w5.cell? ⟨X, 0, none⟩ = some (.slice A h.length c) := (cell1 (SR.out.drew.step hr5 hg5).box).1; have nX : X < w5.heap.size := (cell1 (SR.out.drew.step hr5 hg5).box).2.2; have S5 : Hid (∀ p, SQ w g (M + 3 + h.length + 1) X A c h (w5.alloc (.cells #[.int .i64 p] 3))) := (fun p => (SR.out.drew.step hr5 hg5).next (below1 _ _)); have hroom1 : Hid (h.length + [p].length ≤ 1073741824) := (by show h.length + 1 ≤ _; omega); have hbase1 : Hid (w.heap.size + 1 ≤ (w5.alloc (.cells #[.int .i64 p] 3)).heap.size) := (by show _ ≤ _; rw [World.size_alloc]; have := hg5.size; have : w.heap.size ≤ w5.heap.size := Nat.le_trans hsr this; omega)))
        all_goals
          go_wp2_with fail
          go_roundw
          case rel => exact ⟨j', A6, c6, h ++ [p], rfl, by simp; omega, by have := S6.out.more (M' := M + 3 + (h ++ [p]).length) (by simp; omega); show SQ _ _ _ _ _ _ _ _; simpa using this⟩
          case measure => simp [intOf]
      · have hj0' : j = 0 := by omega
        subst hj0'
        clear x1 x2 x3
        have hM1 : M + 3 + h.length ≤ 1000000 := by omega
        go_wp2_with fail
        refine (callOdd g _ _ _ SR.out.rdr hM1).mono ?_
        rintro e w5 ⟨o1, rfl, hr5, hg5⟩
        have S5 := Lib.hid (SR.out.step hr5 hg5)
        clear hr5 hg5 SR hsr
        have fin : ∀ (A : Option Addr) (c : Nat) (h : List Int) (W : World), SQ w g (M + 20) X A c h W → h.length ≤ 8 → Hid (Own eInt 3 (W.setCell ⟨w.heap.size, 0, none⟩ (.slice A h.length c)) w.heap.size (.slice A h.length c) h ∧ Rdr (W.setCell ⟨w.heap.size, 0, none⟩ (.slice A h.length c)) g (M + 20) ∧ w.grownBy (W.setCell ⟨w.heap.size, 0, none⟩ (.slice A h.length c)) (some g)) := fun A c h W s _ =>
          ⟨(s.own.kept (gset 0 _) (fun k hk => by cases hk; omega)).more (by omega), s.rdr.setNew (by show g < w.heap.size; exact hgw) _, grown_setNew s.gr (p := ⟨w.heap.size, 0, none⟩) (Nat.le_refl _) _⟩
        go_upto_if 37 with (fail)
        go_cut [7, 8] (fun s7 s8 wx => ∃ (kind size : Int) (A : Option Addr) (c : Nat) (h : List Int), s7 = .int .i64 kind ∧ s8 = .int .i64 size ∧ h.length ≤ 8 ∧ Hid (SQ w g (M + 20) X A c h wx))
        case first =>
          cases o1
          · go_wp2_with fail
            go_meet
            case rel => exact ⟨_, _, A, c, h, rfl, rfl, by omega, S5.out.more (by omega)⟩
          · go_wp2_with fail
            refine (callPick g _ _ _ S5.out.rdr (by omega)).mono ?_
            rintro e w6 ⟨k, rfl, d1, d2, _, hr6, hg6⟩
            have hk4 : k < 4 := by omega
            have S6 := Lib.hid (S5.out.step hr6 hg6)
            clear hr6 hg6 S5 d2
            by_cases hk0 : k = 0
            · subst hk0
              go_wp2_with fail
              refine (callPick g _ _ _ (S6.out.next (below1 _ _)).rdr (by omega)).mono ?_
              rintro e w7 ⟨q, rfl, q1, q2, _, hr7, hg7⟩
              have hq : q < 2 := by omega
              obtain ⟨kk, x, rfl, hx, _, _⟩ := litc (w := w7) (g := w6.heap.size) [0, 4] (gblk hg7 (heap_alloc_new w6 _) (by have := S6.out.rdr.lt; simp; omega)) (lo := 0) (hi := 4) (by simp) q1 (by simpa using hq)
              have S7 := Lib.hid ((S6.out.next (below1 _ _)).step hr7 hg7)
              clear hr7 hg7 S6 q2
              go_wp2_with fail
              go_meet
              case rel => exact ⟨_, _, A, c, h, rfl, rfl, by omega, S7.out.more (by omega)⟩
            · have hk0' : (k == 0) = false := by rw [beq_eq_false_iff_ne]; exact hk0
              by_cases hk1 : k = 1
              · subst hk1
                go_wp2_with fail
                refine (callPick g _ _ _ (S6.out.next (below1 _ _)).rdr (by omega)).mono ?_
                rintro e w7 ⟨q, rfl, q1, q2, _, hr7, hg7⟩
                have hq : q < 2 := by omega
                obtain ⟨kk, x, rfl, hx, _, _⟩ := litc (w := w7) (g := w6.heap.size) [0, 5] (gblk hg7 (heap_alloc_new w6 _) (by have := S6.out.rdr.lt; simp; omega)) (lo := 0) (hi := 5) (by simp) q1 (by simpa using hq)
                have S7 := Lib.hid ((S6.out.next (below1 _ _)).step hr7 hg7)
                clear hr7 hg7 S6 q2
                go_wp2_with fail
                go_meet
                case rel => exact ⟨_, _, A, c, h, rfl, rfl, by omega, S7.out.more (by omega)⟩
              · have hk1' : (k == 1) = false := by rw [beq_eq_false_iff_ne]; exact hk1
                obtain ⟨x1, x2, x3⟩ := cell1 S6.out.box
                by_cases hk2 : k = 2
                · subst hk2
                  have S6a := Lib.hid (S6.out.next (below1 w6 (.cells #[.int .i64 256] 3)))
                  have hsw : w.heap.size ≤ w6.heap.size := S6.out.gr.size
                  go_wp2_with (at_builtin; refine wpList_app _ eiInt rfl (.tmp 61) (.tmp 62) rfl (w.heap.size + 1) S6a.out.own (Rd.new (xs := [(256 : Int)]) _ _ _ rfl) rfl rfl rfl (by simp; omega) (by simp; omega) ?_; intro v' w7 row hown7 hg7 hrow7; obtain ⟨A7, c7, hv7, hc7, _⟩ := hown7.form; subst hv7; have hq7 := S6a.out.app hg7 hrow7; have S7 := Lib.hid (SQ.mk' hq7.1 hq7.2.1 hq7.2.2.1 hq7.2.2.2 hown7 hgw S6.out.hX hc7); obtain ⟨z1, z2, z3⟩ := cell1 hq7.2.2.2; clear hown7 hg7 hrow7 hq7)
                  go_meet
                  case rel => exact ⟨_, _, A7, c7, h ++ [256], rfl, rfl, by simp; omega, by have := S7.out.more (M' := M + 20) (by omega); show SQ _ _ _ _ _ _ _ _; simpa using this⟩
                · have hk2' : (k == 2) = false := by rw [beq_eq_false_iff_ne]; exact hk2
                  obtain ⟨sn, hsn1, hsn2⟩ : ∃ sn : Nat, (s : Int) + 1 = (sn : Int) ∧ sn ≤ 5 := ⟨s + 1, by omega, by omega⟩
                  have hsw : w.heap.size ≤ w6.heap.size := S6.out.gr.size
                  go_wp2_with (at_make; refine wpList_mkE (E := eInt) _ Try.underlying23 (z := .int .i64 0) (m := 8) (by kernel_rfl) (by decide) (0 : Int) rfl rfl _ _ rfl (w.heap.size + 1) sn sn sn rfl rfl rfl rfl (by omega) (by have := S6.out.hX; omega) ?_; intro w7 hown7 hb7; have HS7 := Lib.hid (S6.out.next hb7); have HO7 := Lib.hid hown7; have S8 := Lib.hid (SQ.mk' (h' := List.replicate sn 0) (c' := sn) HS7.out.rdr HS7.out.gr HS7.out.res HS7.out.box (by rw [List.length_replicate]; exact hown7) hgw S6.out.hX (by simp)); obtain ⟨z1, z2, z3⟩ := cell1 HS7.out.box; clear hown7 hb7)
                  go_meet
                  case rel => exact ⟨_, _, some ⟨w6.heap.size, 0, none⟩, sn, List.replicate sn 0, rfl, rfl, by simp; omega, by have := S8.out.more (M' := M + 20) (by omega); show SQ _ _ _ _ _ _ _ _; simpa using this⟩
        case rest =>
          obtain ⟨kind, size, A9, c9, h9, rfl, rfl, hl9, S9⟩ := hcut
          have HF := Lib.hid (fin A9 c9 h9 wc S9.out hl9).out
          obtain ⟨x1, x2, x3⟩ := cell1 S9.out.box
          obtain ⟨y1, y2, y3⟩ := cell1 S9.out.res
          have HRS := Lib.hid (res1 S9.out.res (.slice A9 h9.length c9))
          clear S5 fin
          go_wp2_with fail
          exact bodyPost_ret (v := .tuple #[.agg #[.slice A9 h9.length c9], .int .i64 kind, .int .i64 size]) (by simp [results, Try.results32, go_sem, HRS.out]) rfl ⟨A9, c9, h9, kind, size, rfl, HF.out.1, S9.out.hc, hl9, HF.out.2.1, HF.out.2.2⟩

set_option maxHeartbeats 800000 in
theorem callDrawHoldTake (A : Option Addr) (c : Nat) (bs : List Int) (w : World) (hc : bs.length ≤ c) (hm : bs.length ≤ 1048576) (hr : Rd eU8 w w.heap.size A bs) (hby : ∀ x ∈ bs, 0 ≤ x ∧ x ≤ 255) :
    Calls Try.prog 10 #[.slice A bs.length c] w fun e w' =>
      ∃ A c h kind size, e = .returned (.tuple #[.agg #[.slice A (h : List Int).length c], .int .i64 kind, .int .i64 size]) ∧ Rd eInt w' w'.heap.size A h ∧ h.length ≤ c ∧ h.length ≤ 8 ∧ Below w.heap.size w w' := by
  go_enter Try.func10, Try.ntmps10
  go_wp2_with fail
  refine (callOpen A c bs _ hc hm (hr.alloc _) hby).mono ?_
  rintro e w1 ⟨rfl, hr1, hb1⟩
  have hr1' : Rdr w1 (w.heap.size + 1) 0 := by simpa using hr1
  have HK1 : Hid (w1.heap[w.heap.size]? = some (.cells #[.slice none 0 0] 25 (0, 0))) := blkc (heap_alloc_new w _) hb1
  have HB := Lib.hid (bel_trans (below1 _ _) hb1)
  have HR := Lib.hid hr1'
  have hs1 : w.heap.size + 1 < w1.heap.size := hr1'.lt
  clear hr1 hr1' hb1
  go_wp2_with fail
  refine (callDrawHold (w.heap.size + 1) 0 _ _ HR.out (by omega)).mono ?_
  rintro e w2 ⟨A2, c2, h, kind, size, rfl, hown2, hc2, hl2, hr2, hg2⟩
  have HK2 := Lib.hid (gblk hg2 HK1.out (by simp))
  have HO := Lib.hid (hown2.kept (gset (g := w.heap.size) 0 (.slice A2 h.length c2)) (fun k hk => by cases hk; omega)).rd
  have HB2 := Lib.hid ((HB.out.trans ((Below.refl _ _).grown hg2 (by omega) (fun k hk => by cases hk; omega))).setCell (p := ⟨w.heap.size, 0, none⟩) (Nat.le_refl _) (.slice A2 h.length c2))
  obtain ⟨k1, k2, k3⟩ := cell1 HK2.out
  have HRS := Lib.hid (res1 HK2.out (.slice A2 h.length c2))
  clear hown2 hr2 hg2
  go_wp2
  exact bodyPost_ret (v := .tuple #[.agg #[.slice A2 h.length c2], .int .i64 kind, .int .i64 size]) (by simp [results, Try.results10, go_sem, HRS.out]) rfl ⟨A2, c2, h, kind, size, rfl, HO.out, hc2, hl2, HB2.out⟩
end Go.Proofs.Ytonhkadbiepedaa
