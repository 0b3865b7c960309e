/- What the drawing function of links leaves. -/
import Derived.Test.YtonhkadbiepedaaDrw
import Derived.Test.YtonhkadbiepedaaLku
import Derived.Deep.RegionLaw
namespace Go.Proofs.Ytonhkadbiepedaa
open Go.RowKit Go.Sort

theorem send_fact {d at' v : Int} {ps : List Pkt} (h : linkOk d ps = true) (hl : lastAt ps ps.length ≤ at' + d) (h20 : ps.length < 20) (h0 : 0 ≤ at') (h1 : at' ≤ 100000) (v0 : 0 ≤ v) (v1 : v ≤ 255) :
    ∃ L2, linkSend d ps at' v = ((d, L2), true) ∧ linkOk d L2 = true ∧ lastAt L2 L2.length ≤ at' + d ∧ L2.length = ps.length + 1 := by
  have ht : inB at' 0 100000 = true := inB_iff.2 ⟨h0, h1⟩
  have hv : inB v 0 255 = true := inB_iff.2 ⟨v0, v1⟩
  have hf : linkFull d ps at' = false := by
    unfold linkFull
    rw [decide_eq_false (by omega), decide_eq_false (show ¬ at' + d < lastAt ps ps.length by omega), Bool.and_false]; rfl
  refine ⟨ps ++ [⟨at' + d, v⟩], ?_, linkSend_ok h ht hv hf, ?_, by simp⟩
  · unfold linkSend
    rw [h, ht, hv, hf]; rfl
  · have e : (ps ++ [(⟨at' + d, v⟩ : Pkt)]).length = ps.length + 1 := by simp
    rw [e, lastAt_succ (by simp), List.getElem_append_right (Nat.le_refl _)]
    simp

/-- The reader, the result's box, and a link in a box. -/
structure LQ (w0 : World) (g M X : Nat) (d : Int) (A : Option Addr) (c : Nat) (h : List Pkt) (wx : World) : Prop where
  rdr : Rdr wx g M
  gr : w0.grownBy wx (some g)
  res : wx.heap[w0.heap.size]? = some (.cells #[.int .i64 0, .slice none 0 0] 36 (0, 0))
  box : wx.heap[X]? = some (.cells #[.int .i64 d, .slice A h.length c] 36 (0, 0))
  own : Own ePkt 46 wx (w0.heap.size + 1) (.slice A h.length c) h
  hg : g < w0.heap.size
  hX : w0.heap.size < X
  hc : h.length ≤ c
section
variable {w0 wx w' : World} {g M M' X : Nat} {A A' : Option Addr} {c c' : Nat} {d d' : Int} {h h' : List Pkt}
theorem LQ.step (s : LQ w0 g M X d A c h wx) (hr : Rdr w' g M') (hg : wx.grownBy w' (some g)) : LQ w0 g M' X d A c h w' :=
  ⟨hr, grown_trans' s.gr hg, gblk hg s.res (by have := s.hg; simp; omega), gblk hg s.box (by have := s.hg; have := s.hX; simp; omega), s.own.kept hg (fun k hk => by cases hk; have := s.hg; omega), s.hg, s.hX, s.hc⟩
theorem LQ.drew (s : LQ w0 g M X d A c h wx) : LQ w0 g M X d A c h wx.drew := ⟨s.rdr, ⟨s.gr.os, s.gr.tape, s.gr.output, s.gr.size, s.gr.block⟩, s.res, s.box, s.own, s.hg, s.hX, s.hc⟩
theorem LQ.next (s : LQ w0 g M X d A c h wx) (hb : Below wx.heap.size wx w') : LQ w0 g M X d A c h w' := s.step (s.rdr.next hb) (grownBy_of_below hb _)
theorem LQ.more (s : LQ w0 g M X d A c h wx) (hM : M ≤ M') : LQ w0 g M' X d A c h wx := ⟨s.rdr.more hM, s.gr, s.res, s.box, s.own, s.hg, s.hX, s.hc⟩
/-- Behind an append onto what the box holds: 'row' is the list's own block. -/
theorem LQ.app {v : Value} {row : Option Nat} (s : LQ w0 g M X d A c h wx) (hg : wx.grownBy w' row) (hrow : ∀ k, row = some k → w0.heap.size + 1 ≤ k ∧ v.ownBlock = some k ∧ ∃ cur, wx.heap[k]? = some (.cells cur 46 (0, 0))) :
    Rdr w' g M ∧ w0.grownBy w' (some g) ∧ w'.heap[w0.heap.size]? = some (.cells #[.int .i64 0, .slice none 0 0] 36 (0, 0)) ∧ w'.heap[X]? = some (.cells #[.int .i64 d, .slice A h.length c] 36 (0, 0)) := by
  have h1 := s.hg
  refine ⟨s.rdr.grown hg (fun k hk => by have := (hrow k hk).1; omega), grown_new s.gr hg (fun k hk => by have := (hrow k hk).1; omega), gblk hg s.res (fun e => by have := (hrow _ e.symm).1; omega), gblk hg s.box (fun e => ?_)⟩
  obtain ⟨cur, hcur⟩ := (hrow _ e.symm).2.2
  have hq := s.box
  rw [hcur] at hq
  injection hq with hq
  injection hq with _ hq
  exact absurd hq (by decide)
theorem LQ.mk1 {v1 : Value} (hr : Rdr wx g M) (gr : w0.grownBy wx (some g)) (res : wx.heap[w0.heap.size]? = some (.cells #[.int .i64 0, .slice none 0 0] 36 (0, 0))) (box : wx.heap[X]? = some (.cells #[.int .i64 d, v1] 36 (0, 0))) (ho : Own ePkt 46 wx (w0.heap.size + 1) (.slice A' h'.length c') h') (hgX : g < w0.heap.size) (hX : w0.heap.size < X) (hc' : h'.length ≤ c') : LQ w0 g M X d A' c' h' (wx.setCell ⟨X, 1, none⟩ (.slice A' h'.length c')) :=
  ⟨hr.setNew (by show g < X; omega) _, grown_setNew gr (p := ⟨X, 1, none⟩) (by show w0.heap.size ≤ X; omega) _, gblk (gset 1 _) res (by simp; omega), set2b box, ho.keptOther (gset 1 _) (fun k hk => by cases hk; exact .inr ⟨_, _, _, box, by decide⟩), hgX, hX, hc'⟩
theorem LQ.set0 (s : LQ w0 g M X d A c h wx) (d' : Int) : LQ w0 g M X d' A c h (wx.setCell ⟨X, 0, none⟩ (.int .i64 d')) :=
  ⟨s.rdr.setNew (by have := s.hg; have := s.hX; show g < X; omega) _, grown_setNew s.gr (p := ⟨X, 0, none⟩) (by have := s.hX; show w0.heap.size ≤ X; omega) _, gblk (gset 0 _) s.res (by have := s.hX; simp; omega), set2a s.box, s.own.keptOther (gset 0 _) (fun k hk => by cases hk; exact .inr ⟨_, _, _, s.box, by decide⟩), s.hg, s.hX, s.hc⟩
theorem LQ.set2 (s : LQ w0 g M X d A c h wx) (d' : Int) (hb : Below wx.heap.size wx w') (ho : Own ePkt 46 w' wx.heap.size (.slice A' h'.length c') h') (hc' : h'.length ≤ c') : LQ w0 g M X d' A' c' h' ((w'.setCell ⟨X, 0, none⟩ (.int .i64 d')).setCell ⟨X, 1, none⟩ (.slice A' h'.length c')) := by
  have t := (s.next hb).set0 d'
  have hx := (cell2 s.box).2.2.2.2
  have := s.hX
  exact LQ.mk1 t.rdr t.gr t.res t.box ((ho.more (base' := w0.heap.size + 1) (by omega)).keptOther (gset 0 _) (fun k hk => by cases hk; exact .inr ⟨_, _, _, (s.next hb).box, by decide⟩)) s.hg s.hX hc'
end

/-- How many packets lie in a box. -/
def boxLen (w : World) (X : Nat) : Nat := match w.cell? ⟨X, 1, none⟩ with | some (.slice _ n _) => n | _ => 0
theorem LQ.len {w0 wx : World} {g M X : Nat} {d : Int} {A : Option Addr} {c : Nat} {h : List Pkt} (s : LQ w0 g M X d A c h wx) : boxLen wx X = h.length := by
  unfold boxLen; rw [(cell2 s.box).2.1]

theorem callDSend (w0 : World) (g M X : Nat) (d at' v : Int) (A : Option Addr) (c : Nat) (ps : List Pkt) (w : World) (s : LQ w0 g M X d A c ps w) (hp : linkOk d ps = true) (hl : lastAt ps ps.length ≤ at' + d) (h20 : ps.length < 20) (h0 : 0 ≤ at') (h1 : at' ≤ 100000) (v0 : 0 ≤ v) (v1 : v < 256) :
    Calls Try.prog 18 #[.agg #[.int .i64 d, .slice A ps.length c], .int .i64 at', .int .i64 v] w fun e w' => ∃ A1 c1 L2, e = .returned (.tuple #[.agg #[.int .i64 d, .slice A1 (L2 : List Pkt).length c1], .bool true]) ∧ linkOk d L2 = true ∧ lastAt L2 L2.length ≤ at' + d ∧ L2.length = ps.length + 1 ∧ w'.heap[X]? = some (.cells #[.int .i64 d, .slice A ps.length c] 36 (0, 0)) ∧ LQ w0 g M X d A1 c1 L2 ((w'.setCell ⟨X, 0, none⟩ (.int .i64 d)).setCell ⟨X, 1, none⟩ (.slice A1 L2.length c1)) := by
  obtain ⟨L2, e1, e2, e3, e4⟩ := send_fact hp hl h20 h0 h1 v0 (show v ≤ 255 by omega)
  refine (callSLinkSend A c d ps at' v w w.heap.size (Nat.le_refl _) (by omega) s.own.rd).mono ?_
  rw [e1]
  rintro e w' ⟨A1, c1, rfl, ho, hc, hb⟩
  exact ⟨A1, c1, L2, rfl, e2, e3, e4, (s.next hb).box, s.set2 d hb ho hc⟩

set_option maxRecDepth 100000 in
set_option maxHeartbeats 3200000 in
theorem callDrawLink (g M : Nat) (n : Int) (w : World) (hr : Rdr w g M) (hM : M ≤ 800000) :
    Calls Try.prog 42 #[.pointer (some ⟨g, 0, none⟩), .int .i64 n] w fun e w' =>
      ∃ A c d h, e = .returned (.agg #[.int .i64 d, .slice A (h : List Pkt).length c]) ∧ Own ePkt 46 w' w.heap.size (.slice A h.length c) h ∧ h.length ≤ c ∧ h.length ≤ 21 ∧ Rdr w' g (M + 40) ∧ w.grownBy w' (some g) := by
  have hgw := hr.lt
  have HR := Lib.hid hr
  clear hr
  go_enter Try.func42, Try.ntmps42
  go_wp2_with fail
  refine (callPick g M _ _ (HR.out.alloc _) (by omega)).mono ?_
  rintro e w1 ⟨d, rfl, a1, a2, _, hr1, hg1⟩
  have ha : d < 9 := by omega
  have K1 := Lib.hid (gblk hg1 (heap_alloc_new w (.cells #[.int .i64 0, .slice none 0 0] 36)) (by simp; omega))
  have H1 := Lib.hid (And.intro hr1 (grown_trans' (grown_alloc (World.grownBy.refl w _) _) hg1))
  have hs1 : w.heap.size < w1.heap.size := (cell2 K1.out).2.2.2.2
  clear hr1 hg1 a2
  have S1 : Hid (LQ w g (M + 1) w1.heap.size d none 0 [] (w1.alloc (.cells #[.int .i64 d, .slice none 0 0] 36))) :=
    ⟨H1.out.1.alloc _, grown_alloc H1.out.2 _, blkc K1.out (below1 _ _), heap_alloc_new w1 _, Own.none_, hgw, hs1, Nat.le_refl _⟩
  clear H1 K1
  go_wp2_with fail
  refine (callPick g _ _ _ S1.out.rdr (by omega)).mono ?_
  rintro e w2 ⟨k2, rfl, b1, b2, _, hr2, hg2⟩
  obtain ⟨j0, rfl⟩ := Int.eq_ofNat_of_zero_le b1
  have hj0 : j0 ≤ 7 := by omega
  have S2 := Lib.hid (S1.out.step hr2 hg2)
  obtain ⟨X, hX⟩ : ∃ X, X = w1.heap.size := ⟨_, rfl⟩
  rw [← hX] at S2 ⊢
  clear hr2 hg2 b1 b2 S1 hX hs1
  have OK0 : Hid (linkOk d [] = true ∧ lastAt [] 0 ≤ 0 + d) := ⟨linkOk_iff.2 ⟨rfl, ⟨a1, by omega⟩, by simp⟩, by show (0 : Int) ≤ 0 + d; omega⟩
  go_wp2_with fail
  go_loopw [6, 7] (fun t i wr => ∃ (j a : Nat) (A : Option Addr) (c : Nat) (h : List Pkt), t = .int .i64 a ∧ i = .int .i64 j ∧ h.length + j ≤ j0 ∧ a + 3 * j ≤ 3 * j0 ∧ Hid (linkOk d h = true ∧ lastAt h h.length ≤ (a : Int) + d) ∧ Hid (LQ w g (M + 2 + 2 * h.length) X d A c h wr)) (fun _ i _ => (intOf i).toNat)
  case atStart => exact ⟨j0, 0, none, 0, [], rfl, rfl, by simp, by omega, OK0.out, S2.out⟩
  case round =>
    obtain ⟨j, a, A, c, h, rfl, rfl, hjj, haj, OK, SR⟩ := hrel
    clear S2 OK0
    by_cases hj : 0 < j
    · obtain ⟨j', rfl⟩ : ∃ j', j = j' + 1 := ⟨j - 1, by omega⟩
      go_wp2_with fail
      refine (callPick g _ _ _ SR.out.rdr (by omega)).mono ?_
      rintro e w4 ⟨p, rfl, p1, p2, _, hr4, hg4⟩
      obtain ⟨q, rfl⟩ := Int.eq_ofNat_of_zero_le p1
      have hq : q ≤ 3 := by omega
      have S4 := Lib.hid (SR.out.step hr4 hg4)
      have OK4 : Hid (linkOk d h = true ∧ lastAt h h.length ≤ ((a : Int) + (q : Int)) + d) := ⟨OK.out.1, by have := OK.out.2; omega⟩
      have hM1 : M + 2 + 2 * h.length + 1 ≤ 1000000 := by omega
      have hl20 : h.length < 20 := by omega
      have ht0 : (0 : Int) ≤ (a : Int) + (q : Int) := by omega
      have ht1 : (a : Int) + (q : Int) ≤ 100000 := by omega
      clear hr4 hg4 p1 p2 SR OK
      obtain ⟨x0, x1, x2, x3, x4⟩ := cell2 S4.out.box
      go_wp2_with fail
      go_region_law (first
          | (go_simp; go_at_call 43; refine (callPick g _ _ _ S4.out.drew.rdr hM1).mono ?_; rintro e w5 ⟨p, rfl, d1, d2, _, hr5, hg5⟩; have d3 : p < 256 := d2 (by omega); have S5 := Lib.hid (S4.out.drew.step hr5 hg5); obtain ⟨n0, n1, n2, n3, n4⟩ := cell2 S5.out.box)
          | (go_simp; go_at_call 18; refine (callDSend _ g _ X d _ _ A c h _ S5.out OK4.out.1 OK4.out.2 hl20 ht0 ht1 d1 d3).mono ?_; rintro e w6 ⟨A6, c6, L6, rfl, hok6, hla6, hle6, hbx6, hlq6⟩; obtain ⟨m0, m1, m2, m3, m4⟩ := cell2 hbx6; have OK6 := Lib.hid (And.intro hok6 hla6); have S6 := Lib.hid hlq6; have HE6 := Lib.hid hle6; clear hok6 hla6 hlq6 hle6 hbx6))
      all_goals
        go_wp2_with fail
        go_roundw
        case rel => have := HE6.out; exact ⟨j', a + q, A6, c6, L6, by go_num, by go_num, by omega, by omega, by have := OK6.out; rw [Int.natCast_add]; exact this, S6.out.more (by omega)⟩
        case measure => simp [intOf]
    · have hj0' : j = 0 := by omega
      subst hj0'
      have hM1 : M + 2 + 2 * h.length ≤ 1000000 := by omega
      go_wp2_with fail
      refine (callOdd g _ _ _ SR.out.rdr hM1).mono ?_
      rintro e w5 ⟨o1, rfl, hr5, hg5⟩
      have S5 := Lib.hid ((SR.out.step hr5 hg5).more (M' := M + 20) (by omega))
      have hh7 : h.length ≤ 7 := by omega
      have ha21 : a ≤ 21 := by omega
      clear hr5 hg5 SR
      go_upto_if 30 with (fail)
      go_cut [6] (fun s6 wx => ∃ (A : Option Addr) (c : Nat) (h : List Pkt), s6 = .int .i64 a ∧ h.length ≤ 20 ∧ Hid (LQ w g (M + 20) X d A c h wx))
      case first =>
        cases o1
        · go_wp2_with fail
          go_meet
          case rel => exact ⟨A, c, h, rfl, by omega, S5.out⟩
        · go_wp2_with fail
          go_loopw [] (fun wr => ∃ (A : Option Addr) (c : Nat) (h : List Pkt), h.length ≤ 20 ∧ Hid (linkOk d h = true ∧ lastAt h h.length ≤ (a : Int) + d) ∧ Hid (LQ w g (M + 20) X d A c h wr)) (fun wr => 20 - boxLen wr X)
          case atStart => exact ⟨A, c, h, by omega, OK.out, S5.out⟩
          case round =>
            clear S5 OK hh7 hjj haj hM1
            obtain ⟨A, c, h, hh, OK, SR⟩ := hrel
            obtain ⟨x0, x1, x2, x3, x4⟩ := cell2 SR.out.box
            by_cases hlt : h.length < 20
            · have hd : decide ((h.length : Int) < 20) = true := decide_eq_true (by omega)
              go_wp2_with fail
              refine (callDSend _ g _ X d _ _ A c h _ SR.out OK.out.1 OK.out.2 hlt (by omega) (by omega) (by omega) (by omega)).mono ?_
              rintro e w6 ⟨A6, c6, L6, rfl, hok6, hla6, hle6, hbx6, hlq6⟩
              obtain ⟨m0, m1, m2, m3, m4⟩ := cell2 hbx6
              have OK6 := Lib.hid (And.intro hok6 hla6)
              have S6 := Lib.hid hlq6
              have HE6 := Lib.hid hle6
              clear hok6 hla6 hlq6 hle6 hbx6 x0 x1 x2 x3 x4
              go_wp2_with fail
              go_roundw
              case rel => have := HE6.out; exact ⟨A6, c6, L6, by omega, OK6.out, S6.out⟩
              case measure => have := HE6.out; rw [S6.out.len, SR.out.len]; omega
            · have hd : decide ((h.length : Int) < 20) = false := decide_eq_false (by omega)
              go_wp2_with fail
              go_meet
              case rel => exact ⟨A, c, h, rfl, by omega, SR.out⟩
      case rest =>
        clear S5 OK hh7 hjj haj hM1
        obtain ⟨A, c, h, rfl, hh, SR⟩ := hcut
        go_wp2_with fail
        refine (callOdd g _ _ _ SR.out.rdr (by omega)).mono ?_
        rintro e w5 ⟨o1, rfl, hr5, hg5⟩
        have S5 := Lib.hid (SR.out.step hr5 hg5)
        clear hr5 hg5 SR
        go_upto_if 43 with (fail)
        go_cut [6] (fun s6 wx => ∃ (d : Int) (A : Option Addr) (c : Nat) (h : List Pkt), s6 = .int .i64 a ∧ h.length ≤ 21 ∧ Hid (LQ w g (M + 40) X d A c h wx))
        case first =>
          cases o1
          · go_wp2_with fail
            go_meet
            case rel => exact ⟨d, A, c, h, rfl, by omega, S5.out.more (by omega)⟩
          · go_wp2_with fail
            refine (callPick g _ _ _ S5.out.rdr (by omega)).mono ?_
            rintro e w6 ⟨k, rfl, d1, d2, _, hr6, hg6⟩
            have hk4 : k < 4 := by omega
            have S6 := Lib.hid (S5.out.step hr6 hg6)
            clear hr6 hg6 S5 d2
            obtain ⟨x0, x1, x2, x3, x4⟩ := cell2 S6.out.box
            have hsw : w.heap.size ≤ w6.heap.size := S6.out.gr.size
            by_cases hk0 : k = 0
            · subst hk0
              go_wp2_with fail
              refine (callPick g _ _ _ (S6.out.next (below1 _ _)).rdr (by omega)).mono ?_
              rintro e w7 ⟨q, rfl, q1, q2, _, hr7, hg7⟩
              have hq : q < 2 := by omega
              obtain ⟨kk, x, rfl, hx, _, _⟩ := litc (w := w7) (g := w6.heap.size) [-1, 51] (gblk hg7 (heap_alloc_new w6 _) (by have := S6.out.rdr.lt; simp; omega)) (lo := -1) (hi := 51) (by simp) q1 (by simpa using hq)
              have S7 := Lib.hid ((S6.out.next (below1 _ _)).step hr7 hg7)
              obtain ⟨y0, y1, y2, y3, y4⟩ := cell2 S7.out.box
              clear hr7 hg7 S6 q2 x0 x1 x2 x3 x4
              go_wp2_with fail
              go_meet
              case rel => exact ⟨x, A, c, h, rfl, by omega, (S7.out.set0 x).more (by omega)⟩
            · have hk0' : (k == 0) = false := by rw [beq_eq_false_iff_ne]; exact hk0
              by_cases hk1 : k = 1
              · subst hk1
                have S6a := Lib.hid (S6.out.next (below1 w6 (.cells #[.int .i64 (-1), .int .i64 0] 46)))
                obtain ⟨h2, hh2⟩ : ∃ h2, h2 = h ++ [(⟨-1, 0⟩ : Pkt)] := ⟨_, rfl⟩
                have HH2 := Lib.hid hh2
                have hl2 : h2.length ≤ 21 := by rw [hh2]; simp; omega
                clear hh2
                go_wp2_with (at_builtin; refine wpList_app _ eiPkt rfl (.tmp 59) (.tmp 61) rfl (w.heap.size + 1) S6a.out.own (Rd.new (E := ePkt) (xs := [⟨-1, 0⟩]) _ _ _ rfl) rfl rfl rfl (by simp only [List.length_cons, List.length_nil]; omega) (by simp; omega) ?_; intro v' w7 row hown7' hg7 hrow7; have hown7 : Own ePkt 46 w7 (w.heap.size + 1) v' h2 := (by rw [HH2.out]; exact hown7'); obtain ⟨A7, c7, hv7, hc7, _⟩ := hown7.form; subst hv7; have hq7 := S6a.out.app hg7 hrow7; have S7 := Lib.hid (LQ.mk1 hq7.1 hq7.2.1 hq7.2.2.1 hq7.2.2.2 hown7 hgw S6.out.hX hc7); obtain ⟨z0, z1, z2, z3, z4⟩ := cell2 hq7.2.2.2; clear hown7 hown7' hg7 hrow7 hq7)
                go_meet
                case rel => exact ⟨d, A7, c7, h2, rfl, hl2, S7.out.more (by omega)⟩
              · have hk1' : (k == 1) = false := by rw [beq_eq_false_iff_ne]; exact hk1
                by_cases hk2 : k = 2
                · subst hk2
                  have S6a := Lib.hid (S6.out.next (below1 w6 (.cells #[.int .i64 99, .int .i64 256] 46)))
                  obtain ⟨h2, hh2⟩ : ∃ h2, h2 = h ++ [(⟨99, 256⟩ : Pkt)] := ⟨_, rfl⟩
                  have HH2 := Lib.hid hh2
                  have hl2 : h2.length ≤ 21 := by rw [hh2]; simp; omega
                  clear hh2
                  go_wp2_with (at_builtin; refine wpList_app _ eiPkt rfl (.tmp 67) (.tmp 69) rfl (w.heap.size + 1) S6a.out.own (Rd.new (E := ePkt) (xs := [⟨99, 256⟩]) _ _ _ rfl) rfl rfl rfl (by simp only [List.length_cons, List.length_nil]; omega) (by simp; omega) ?_; intro v' w7 row hown7' hg7 hrow7; have hown7 : Own ePkt 46 w7 (w.heap.size + 1) v' h2 := (by rw [HH2.out]; exact hown7'); obtain ⟨A7, c7, hv7, hc7, _⟩ := hown7.form; subst hv7; have hq7 := S6a.out.app hg7 hrow7; have S7 := Lib.hid (LQ.mk1 hq7.1 hq7.2.1 hq7.2.2.1 hq7.2.2.2 hown7 hgw S6.out.hX hc7); obtain ⟨z0, z1, z2, z3, z4⟩ := cell2 hq7.2.2.2; clear hown7 hown7' hg7 hrow7 hq7)
                  go_meet
                  case rel => exact ⟨d, A7, c7, h2, rfl, hl2, S7.out.more (by omega)⟩
                · have hk2' : (k == 2) = false := by rw [beq_eq_false_iff_ne]; exact hk2
                  go_wp2_with (at_make; refine wpList_mkE (E := ePkt) _ Try.underlying34 (z := .agg #[.int .i64 0, .int .i64 0]) (m := 16) (by kernel_rfl) (by decide) (⟨0, 0⟩ : Pkt) rfl rfl _ _ rfl (w.heap.size + 1) 21 21 21 rfl rfl rfl rfl (by omega) (by have := S6.out.hX; omega) ?_; intro w7 hown7 hb7; have HS7 := Lib.hid (S6.out.next hb7); have HO7 := Lib.hid hown7; have S8 := Lib.hid (LQ.mk1 (h' := List.replicate 21 (⟨0, 0⟩ : Pkt)) (c' := 21) HS7.out.rdr HS7.out.gr HS7.out.res HS7.out.box (by rw [List.length_replicate]; exact hown7) hgw S6.out.hX (by simp)); obtain ⟨z0, z1, z2, z3, z4⟩ := cell2 HS7.out.box; clear hown7 hb7)
                  go_meet
                  case rel => exact ⟨d, some ⟨w6.heap.size, 0, none⟩, 21, List.replicate 21 ⟨0, 0⟩, rfl, by simp, by have := S8.out.more (M' := M + 40) (by omega); rw [List.length_replicate] at this; exact this⟩
        case rest =>
          clear S5
          obtain ⟨d, A, c, h, rfl, hh, SR⟩ := hcut
          obtain ⟨x0, x1, x2, x3, x4⟩ := cell2 SR.out.box
          obtain ⟨y0, y1, y2, y3, y4⟩ := cell2 SR.out.res
          obtain ⟨s0, s1⟩ := res2 SR.out.res (.int .i64 d) (.slice A h.length c)
          have HF : Hid (Own ePkt 46 ((wc.setCell ⟨w.heap.size, 0, none⟩ (.int .i64 d)).setCell ⟨w.heap.size, 1, none⟩ (.slice A h.length c)) w.heap.size (.slice A h.length c) h ∧ Rdr ((wc.setCell ⟨w.heap.size, 0, none⟩ (.int .i64 d)).setCell ⟨w.heap.size, 1, none⟩ (.slice A h.length c)) g (M + 40) ∧ w.grownBy ((wc.setCell ⟨w.heap.size, 0, none⟩ (.int .i64 d)).setCell ⟨w.heap.size, 1, none⟩ (.slice A h.length c)) (some g)) :=
            ⟨(SR.out.own.kept (gset2 _ _) (fun k hk => by cases hk; omega)).more (by omega), (SR.out.rdr.setNew (p := ⟨w.heap.size, 0, none⟩) hgw _).setNew (p := ⟨w.heap.size, 1, none⟩) hgw _, grown_setNew (grown_setNew SR.out.gr (p := ⟨w.heap.size, 0, none⟩) (Nat.le_refl _) _) (p := ⟨w.heap.size, 1, none⟩) (Nat.le_refl _) _⟩
          go_wp2_with fail
          exact bodyPost_ret (v := .agg #[.int .i64 d, .slice A h.length c]) (by simp [results, Try.results42, go_sem, s0, s1]) rfl ⟨A, c, d, h, rfl, HF.out.1, SR.out.hc, hh, HF.out.2.1, HF.out.2.2⟩
end Go.Proofs.Ytonhkadbiepedaa
