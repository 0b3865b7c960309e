/- What the drawing function of logs leaves. -/
import Derived.Test.YtapkgncmjinedaaAux
import Derived.Deep.RegionLaw
namespace Go.Proofs.Ytapkgncmjinedaa
open Go.RowKit Go.Sort

theorem new_ok {k : Int} (h0 : 0 ≤ k) (h1 : k < 256) : auditOk (k * 4097) [] (k * 4097) = true := auditOk_iff.2 ⟨by simp, inB_iff.2 ⟨by omega, by omega⟩, rfl⟩
set_option maxHeartbeats 800000 in
theorem callNewAudit (key : Int) (w : World) (h : inB key 0 1048572 = true) : Calls Try.prog 94 #[.int .i64 key] w fun e w' => e = .returned (.agg #[.int .i64 key, .slice none 0 0, .int .i64 key]) ∧ Below w.heap.size w w' := by
  obtain ⟨s0, s1, s2, _, _, _, _⟩ := cell3 (heap_alloc_new w (.cells #[.int .i64 key, .slice none 0 0, .int .i64 key] 37))
  go_enter Try.func94, Try.ntmps94
  go_wp2_with (go_at_call 67; refine (callL1In _ _ _ _).mono ?_; rintro e w' ⟨rfl, rfl⟩)
  exact bodyPost_ret (v := .agg #[.int .i64 key, .slice none 0 0, .int .i64 key]) (by simp [results, Try.results94, go_sem, s0, s1, s2]) rfl ⟨rfl, below1 _ _⟩
structure AQ (w0 : World) (g M X : Nat) (A : Option Addr) (c : Nat) (key : Int) (es : List Int) (sum : Int) (wx : World) : Prop where
  rdr : Rdr wx g M
  gr : w0.grownBy wx (some g)
  res : wx.heap[w0.heap.size]? = some (.cells #[.int .i64 0, .slice none 0 0, .int .i64 0] 37 (0, 0))
  box : wx.heap[X]? = some (.cells #[.int .i64 key, .slice A es.length c, .int .i64 sum] 37 (0, 0))
  own : Own eInt 3 wx (w0.heap.size + 1) (.slice A es.length c) es
  hg : g < w0.heap.size
  hX : w0.heap.size < X
  hc : es.length ≤ c
section
variable {w0 wx w' : World} {g M M' X : Nat} {A A' : Option Addr} {c c' : Nat} {es es' : List Int} {key sum : Int}
theorem AQ.step (s : AQ w0 g M X A c key es sum wx) (hr : Rdr w' g M') (hg : wx.grownBy w' (some g)) : AQ w0 g M' X A c key es sum w' :=
  ⟨hr, grown_trans' s.gr hg, gblk hg s.res (by have := s.hg; simp; omega), gblk hg s.box (by have := s.hg; have := s.hX; simp; omega), s.own.kept hg (fun k hk => by cases hk; have := s.hg; omega), s.hg, s.hX, s.hc⟩
theorem AQ.drew (s : AQ w0 g M X A c key es sum wx) : AQ w0 g M X A c key es sum wx.drew := ⟨s.rdr, ⟨s.gr.os, s.gr.tape, s.gr.output, s.gr.size, s.gr.block⟩, s.res, s.box, s.own, s.hg, s.hX, s.hc⟩
theorem AQ.next (s : AQ w0 g M X A c key es sum wx) (hb : Below wx.heap.size wx w') : AQ w0 g M X A c key es sum w' := s.step (s.rdr.next hb) (grownBy_of_below hb _)
theorem AQ.more (s : AQ w0 g M X A c key es sum wx) (hM : M ≤ M') : AQ w0 g M' X A c key es sum wx := ⟨s.rdr.more hM, s.gr, s.res, s.box, s.own, s.hg, s.hX, s.hc⟩
theorem AQ.set0 (s : AQ w0 g M X A c key es sum wx) (v : Int) : AQ w0 g M X A c v es sum (wx.setCell ⟨X, 0, none⟩ (.int .i64 v)) :=
  ⟨s.rdr.setNew (by have := s.hg; have := s.hX; show g < X; omega) _, grown_setNew s.gr (p := ⟨X, 0, none⟩) (by have := s.hX; show w0.heap.size ≤ X; omega) _, gblk (gset 0 _) s.res (by have := s.hX; simp; omega), set3a s.box, s.own.keptOther (gset 0 _) (fun k hk => by cases hk; exact .inr ⟨_, _, _, s.box, by decide⟩), s.hg, s.hX, s.hc⟩
theorem AQ.set2 (s : AQ w0 g M X A c key es sum wx) (v : Int) : AQ w0 g M X A c key es v (wx.setCell ⟨X, 2, none⟩ (.int .i64 v)) :=
  ⟨s.rdr.setNew (by have := s.hg; have := s.hX; show g < X; omega) _, grown_setNew s.gr (p := ⟨X, 2, none⟩) (by have := s.hX; show w0.heap.size ≤ X; omega) _, gblk (gset 2 _) s.res (by have := s.hX; simp; omega), set3c s.box, s.own.keptOther (gset 2 _) (fun k hk => by cases hk; exact .inr ⟨_, _, _, s.box, by decide⟩), s.hg, s.hX, s.hc⟩
/-- Other entries in the box. -/
theorem AQ.set1 (s : AQ w0 g M X A c key es sum wx) (ho : Own eInt 3 wx (w0.heap.size + 1) (.slice A' es'.length c') es') (hc' : es'.length ≤ c') : AQ w0 g M X A' c' key es' sum (wx.setCell ⟨X, 1, none⟩ (.slice A' es'.length c')) :=
  ⟨s.rdr.setNew (by have := s.hg; have := s.hX; show g < X; omega) _, grown_setNew s.gr (p := ⟨X, 1, none⟩) (by have := s.hX; show w0.heap.size ≤ X; omega) _, gblk (gset 1 _) s.res (by have := s.hX; simp; omega), set3b s.box, ho.keptOther (gset 1 _) (fun k hk => by cases hk; exact .inr ⟨_, _, _, s.box, by decide⟩), s.hg, s.hX, hc'⟩
/-- A call's log, stored into the box. -/
theorem AQ.set3 (s : AQ w0 g M X A c key es sum wx) (v u : Int) (hb : Below wx.heap.size wx w') (ho : Own eInt 3 w' wx.heap.size (.slice A' es'.length c') es') (hc' : es'.length ≤ c') : AQ w0 g M X A' c' v es' u (((w'.setCell ⟨X, 0, none⟩ (.int .i64 v)).setCell ⟨X, 1, none⟩ (.slice A' es'.length c')).setCell ⟨X, 2, none⟩ (.int .i64 u)) := by
  have t := (s.next hb).set0 v
  have hx := (cell3 s.box).2.2.2.2.2.2
  have := s.hX
  exact (t.set1 ((ho.more (base' := w0.heap.size + 1) (by omega)).keptOther (gset 0 _) (fun k hk => by cases hk; exact .inr ⟨_, _, _, (s.next hb).box, by decide⟩)) hc').set2 u
/-- Behind an append onto the box's entries. -/
theorem AQ.app {row : Option Nat} (s : AQ w0 g M X A c key es sum wx) (hg : wx.grownBy w' row) (hrow : ∀ k, row = some k → w0.heap.size + 1 ≤ k ∧ ∃ cur, wx.heap[k]? = some (.cells cur 3 (0, 0))) (ho : Own eInt 3 w' (w0.heap.size + 1) (.slice A' es'.length c') es') (hc' : es'.length ≤ c') :
    w'.heap[X]? = some (.cells #[.int .i64 key, .slice A es.length c, .int .i64 sum] 37 (0, 0)) ∧ AQ w0 g M X A' c' key es' sum (w'.setCell ⟨X, 1, none⟩ (.slice A' es'.length c')) := by
  have h1 := s.hg
  have h2 := s.hX
  have hb : w'.heap[X]? = some (.cells #[.int .i64 key, .slice A es.length c, .int .i64 sum] 37 (0, 0)) := gblk hg s.box (fun e => by
    obtain ⟨cur, hcur⟩ := (hrow _ e.symm).2
    have hq := s.box
    rw [hcur] at hq
    injection hq with hq
    injection hq with _ hq
    exact absurd hq (by decide))
  refine ⟨hb, (s.rdr.grown hg (fun k hk => by have := (hrow k hk).1; omega)).setNew (by show g < X; omega) _, grown_setNew (grown_new s.gr hg (fun k hk => by have := (hrow k hk).1; omega)) (p := ⟨X, 1, none⟩) (by show w0.heap.size ≤ X; omega) _, gblk (gset 1 _) (gblk hg s.res (fun e => by have := (hrow _ e.symm).1; omega)) (by simp; omega), set3b hb, ho.keptOther (gset 1 _) (fun k hk => by cases hk; exact .inr ⟨_, _, _, hb, by decide⟩), s.hg, s.hX, hc'⟩
end
def audLen (w : World) (X : Nat) : Nat := match w.cell? ⟨X, 1, none⟩ with | some (.slice _ n _) => n | _ => 0
theorem AQ.len {w0 wx : World} {g M X : Nat} {A : Option Addr} {c : Nat} {key sum : Int} {es : List Int} (s : AQ w0 g M X A c key es sum wx) : audLen wx X = es.length := by
  unfold audLen; rw [(cell3 s.box).2.1]

theorem callDApp (w0 : World) (g M X : Nat) (A : Option Addr) (c : Nat) (key : Int) (es : List Int) (sum entry : Int) (w : World) (s : AQ w0 g M X A c key es sum w) (hok : auditOk key es sum = true) (h60 : es.length < 60) :
    Calls Try.prog 28 #[.agg #[.int .i64 key, .slice A es.length c, .int .i64 sum], .int .i64 entry] w fun e w' => ∃ A1 c1 es1 sum1, e = .returned (.tuple #[.agg #[.int .i64 key, .slice A1 (es1 : List Int).length c1, .int .i64 sum1], .bool true]) ∧ auditOk key es1 sum1 = true ∧ es1.length = es.length + 1 ∧ w'.heap[X]? = some (.cells #[.int .i64 key, .slice A es.length c, .int .i64 sum] 37 (0, 0)) ∧ AQ w0 g M X A1 c1 key es1 sum1 (((w'.setCell ⟨X, 0, none⟩ (.int .i64 key)).setCell ⟨X, 1, none⟩ (.slice A1 es1.length c1)).setCell ⟨X, 2, none⟩ (.int .i64 sum1)) := by
  refine (callSAppendAudit A c es key sum entry w w.heap.size (Nat.le_refl _) (by omega) s.own.rd).mono ?_
  rw [add_good hok (by omega)]
  rintro e w' ⟨A1, c1, rfl, ho, hc, hb⟩
  exact ⟨A1, c1, es ++ [entry], mixStep sum entry, rfl, auditOk_snoc hok (by omega), by simp, (s.next hb).box, s.set3 key (mixStep sum entry) hb ho hc⟩

/-- What the drawing of a log leaves. -/
def AudDrawn (w : World) (g M : Nat) (e : Ending) (w' : World) : Prop :=
  ∃ A c key es sum, e = .returned (.agg #[.int .i64 key, .slice A (es : List Int).length c, .int .i64 sum]) ∧ es.length ≤ 61 ∧ es.length ≤ c ∧ Own eInt 3 w' w.heap.size (.slice A es.length c) es ∧ Rdr w' g (M + 20) ∧ w.grownBy w' (some g)

set_option maxRecDepth 100000 in
set_option maxHeartbeats 6400000 in
theorem callDrawAudit (g M : Nat) (n : Int) (w : World) (hr : Rdr w g M) (hM : M ≤ 800000) :
    Calls Try.prog 63 #[.pointer (some ⟨g, 0, none⟩), .int .i64 n] w (AudDrawn w g M) := by
  have hgw := hr.lt
  have HR := Lib.hid hr
  clear hr
  go_enter Try.func63, Try.ntmps63
  go_wp2_with fail
  refine (callPick g M _ _ (HR.out.alloc _) (by omega)).mono ?_
  rintro e w1 ⟨k1, rfl, a1, a2, _, hr1, hg1⟩
  have ha256 : k1 < 256 := a2 (by omega)
  have K1 := Lib.hid (gblk hg1 (heap_alloc_new w (.cells #[.int .i64 0, .slice none 0 0, .int .i64 0] 37)) (by simp; omega))
  have H1 := Lib.hid (And.intro hr1 (grown_trans' (grown_alloc (World.grownBy.refl w _) _) hg1))
  have hs1 : w.heap.size < w1.heap.size := (cell3 K1.out).2.2.2.2.2.2
  have OK0 := Lib.hid (new_ok a1 ha256)
  have hkin : inB (k1 * 4097) 0 1048572 = true := (auditOk_iff.1 OK0.out).2.1
  have hw4 : IntKind.i64.wrap (k1 * 4097) = k1 * 4097 := IntWalk.i64_in _ (by omega)
  clear a2 hr1 hg1
  obtain ⟨key, hkey⟩ : ∃ key, key = k1 * 4097 := ⟨_, rfl⟩
  have NA := Lib.hid (callNewAudit (k1 * 4097) w1 hkin)
  go_wp2_with fail
  refine NA.out.mono ?_
  rintro e w2 ⟨rfl, hb2⟩
  rw [← hkey] at OK0 ⊢
  have S2 : Hid (AQ w g (M + 1) w2.heap.size none 0 key [] key (w2.alloc (.cells #[.int .i64 key, .slice none 0 0, .int .i64 key] 37))) := by
    have hb := bel_trans hb2 (below1 w2 (.cells #[.int .i64 key, .slice none 0 0, .int .i64 key] 37))
    exact ⟨H1.out.1.next hb, grown_below H1.out.2 hb, blkc K1.out hb, heap_alloc_new w2 _, Own.none_, hgw, by have := hb2.size; omega, Nat.le_refl _⟩
  clear NA hkin hw4 hkey hb2 K1 H1 hs1
  obtain ⟨X, hX⟩ : ∃ X, X = w2.heap.size := ⟨_, rfl⟩
  obtain ⟨u2, hu2⟩ : ∃ u2, u2 = w2.alloc (.cells #[.int .i64 key, .slice none 0 0, .int .i64 key] 37) := ⟨_, rfl⟩
  go_wp2_with fail
  rw [← hX, ← hu2] at S2
  rw [← hX, ← hu2]
  clear hX hu2
  refine (callPick g _ _ _ S2.out.rdr (by omega)).mono ?_
  rintro e w3 ⟨k3, rfl, b1, b2, _, hr3, hg3⟩
  obtain ⟨j0, rfl⟩ := Int.eq_ofNat_of_zero_le b1
  have hj0 : j0 ≤ 6 := by omega
  have S3 := Lib.hid (S2.out.step hr3 hg3)
  clear hr3 hg3 b2 S2
  go_wp2_with fail
  go_loopw [6] (fun i wr => ∃ (j : Nat) (A : Option Addr) (c : Nat) (es : List Int) (sum : Int), i = .int .i64 j ∧ es.length + j ≤ j0 ∧ Hid (auditOk key es sum = true) ∧ Hid (AQ w g (M + 2 + es.length) X A c key es sum wr)) (fun i _ => (intOf i).toNat)
  case atStart => exact ⟨j0, none, 0, [], key, rfl, by simp, OK0.out, S3.out⟩
  case round =>
    obtain ⟨j, A, c, es, sum, rfl, hjj, OK, SR⟩ := hrel
    clear S3 OK0
    by_cases hj : 0 < j
    · obtain ⟨j', rfl⟩ : ∃ j', j = j' + 1 := ⟨j - 1, by omega⟩
      have hl60 : es.length < 60 := by omega
      have hM1 : M + 2 + es.length ≤ 1000000 := by omega
      obtain ⟨x0, x1, x2, x3, x4, x5, x6⟩ := cell3 SR.out.box
      go_upto_region 5 with (fail)
      go_region_law (first
          | (go_simp; go_at_call 53; refine (callPick g _ _ _ SR.out.drew.rdr hM1).mono ?_; rintro e w5 ⟨p, rfl, d1, d2, _, hr5, hg5⟩; have S5 := Lib.hid (SR.out.drew.step hr5 hg5); clear hr5 hg5 d2; obtain ⟨n0, n1, n2, n3, n4, n5, n6⟩ := cell3 S5.out.box)
          | (go_simp; go_at_call 28; refine (callDApp _ g _ X A c key es sum _ _ S5.out OK.out hl60).mono ?_; rintro e w6 ⟨A6, c6, es6, sum6, rfl, hok6, hle6, hbx6, hq6⟩; obtain ⟨m0, m1, m2, m3, m4, m5, m6⟩ := cell3 hbx6; have OK6 := Lib.hid hok6; have S6 := Lib.hid hq6; have HE6 := Lib.hid hle6; clear hok6 hq6 hle6 hbx6))
      all_goals
        go_wp2_with fail
        go_roundw
        case rel => have := HE6.out; exact ⟨j', A6, c6, es6, sum6, by go_num, by omega, OK6.out, S6.out.more (by omega)⟩
        case measure => simp [intOf]
    · have hj0' : j = 0 := by omega
      subst hj0'
      have hM1 : M + 2 + es.length ≤ 1000000 := by omega
      have hl6 : es.length ≤ 6 := by omega
      go_wp2_with fail
      refine (callOdd g _ _ _ SR.out.rdr hM1).mono ?_
      rintro e w5 ⟨o1, rfl, hr5, hg5⟩
      have S5 := Lib.hid ((SR.out.step hr5 hg5).more (M' := M + 10) (by omega))
      clear hr5 hg5 SR hjj hM1
      go_upto_if 25 with (fail)
      go_cut [] (fun wx => ∃ (A : Option Addr) (c : Nat) (es : List Int) (sum : Int), es.length ≤ 60 ∧ Hid (inB sum 0 1048572 = true) ∧ Hid (AQ w g (M + 10) X A c key es sum wx))
      case first =>
        cases o1
        · go_wp2_with fail
          go_meet
          case rel => exact ⟨A, c, es, sum, by omega, auditOk_sum OK.out, S5.out⟩
        · go_wp2_with fail
          go_loopw [] (fun wr => ∃ (A : Option Addr) (c : Nat) (es : List Int) (sum : Int), es.length ≤ 60 ∧ Hid (auditOk key es sum = true) ∧ Hid (AQ w g (M + 10) X A c key es sum wr)) (fun wr => 60 - audLen wr X)
          case atStart => exact ⟨A, c, es, sum, by omega, OK.out, S5.out⟩
          case round =>
            clear S5 OK hl6
            obtain ⟨A, c, es, sum, hh, OK, SR⟩ := hrel
            obtain ⟨x0, x1, x2, x3, x4, x5, x6⟩ := cell3 SR.out.box
            by_cases hlt : es.length < 60
            · have hd : decide ((es.length : Int) < 60) = true := decide_eq_true (by omega)
              go_wp2_with fail
              refine (callDApp _ g _ X A c key es sum _ _ SR.out OK.out hlt).mono ?_
              rintro e w6 ⟨A6, c6, es6, sum6, rfl, hok6, hle6, hbx6, hq6⟩
              obtain ⟨m0, m1, m2, m3, m4, m5, m6⟩ := cell3 hbx6
              have OK6 := Lib.hid hok6
              have S6 := Lib.hid hq6
              have HE6 := Lib.hid hle6
              clear hok6 hq6 hle6 hbx6 x0 x1 x2 x3 x4 x5 x6
              go_wp2_with fail
              go_roundw
              case rel => have := HE6.out; exact ⟨A6, c6, es6, sum6, by omega, OK6.out, S6.out⟩
              case measure => have := HE6.out; rw [S6.out.len, SR.out.len]; omega
            · have hd : decide ((es.length : Int) < 60) = false := decide_eq_false (by omega)
              go_wp2_with fail
              go_meet
              case rel => exact ⟨A, c, es, sum, hh, auditOk_sum OK.out, SR.out⟩
      case rest =>
        clear S5 OK hl6
        obtain ⟨A, c, es, sum, hh, HSUM, SR⟩ := hcut
        go_wp2_with fail
        refine (callOdd g _ _ _ SR.out.rdr (by omega)).mono ?_
        rintro e w5 ⟨o1, rfl, hr5, hg5⟩
        have S5 := Lib.hid (SR.out.step hr5 hg5)
        clear hr5 hg5 SR
        go_upto_if 37 with (fail)
        go_cut [] (fun wx => ∃ (A : Option Addr) (c : Nat) (key : Int) (es : List Int) (sum : Int), es.length ≤ 61 ∧ Hid (AQ w g (M + 20) X A c key es sum wx))
        case first =>
          cases o1
          · go_wp2_with fail
            go_meet
            case rel => exact ⟨A, c, key, es, sum, by omega, S5.out.more (by omega)⟩
          · go_wp2_with fail
            refine (callPick g _ _ _ S5.out.rdr (by omega)).mono ?_
            rintro e w6 ⟨k, rfl, d1, d2, _, hr6, hg6⟩
            have hk4 : k = 0 ∨ k = 1 ∨ k = 2 ∨ k = 3 := by have := d2 (by omega); omega
            have S6 := Lib.hid (S5.out.step hr6 hg6)
            clear hr6 hg6 S5 d2
            obtain ⟨x0, x1, x2, x3, x4, x5, x6⟩ := cell3 S6.out.box
            rcases hk4 with rfl | rfl | rfl | rfl
            · have hsb := inB_iff.1 HSUM.out
              have S7 := Lib.hid (S6.out.set2 (sum + 1))
              go_wp2_with fail
              go_meet
              case rel => exact ⟨A, c, key, es, sum + 1, by omega, S7.out.more (by omega)⟩
            · go_wp2_with fail
              go_meet
              case rel => exact ⟨A, c, -1, es, sum, by omega, (S6.out.set0 (-1)).more (by omega)⟩
            · obtain ⟨es2, hes2⟩ : ∃ es2, es2 = es ++ [(5 : Int)] := ⟨_, rfl⟩
              have HC2 := Lib.hid hes2
              have hl2 : es2.length ≤ 61 := by rw [hes2]; simp; omega
              clear hes2
              go_wp2_with (at_builtin; refine wpList_app _ eiInt rfl (.tmp 54) (.tmp 55) rfl (w.heap.size + 1) (S6.out.next (below1 _ _)).own (Rd.new (E := eInt) (xs := [(5 : Int)]) _ _ _ rfl) rfl rfl rfl (by simp; omega) (by have := S6.out.rdr.lt; have := S6.out.hg; have := S6.out.gr.size; have := S6.out.hX; simp; omega) ?_; intro v' w7 row hown7 hg7 hrow7; rw [← HC2.out] at hown7; obtain ⟨A7, c7, hv7, hc7, _⟩ := hown7.form; subst hv7; have H7 := Lib.hid ((S6.out.next (below1 w6 (.cells #[.int .i64 5] 3))).app hg7 (fun k hk => ⟨(hrow7 k hk).1, (hrow7 k hk).2.2⟩) hown7 hc7); obtain ⟨m0, m1, m2, m3, m4, m5, m6⟩ := cell3 H7.out.1; have SF := Lib.hid H7.out.2; clear hown7 hg7 hrow7 H7)
              go_meet
              case rel => exact ⟨A7, c7, key, es2, sum, hl2, SF.out.more (by omega)⟩
            · obtain ⟨z61, hz61⟩ : ∃ z : List Int, z = List.replicate 61 0 := ⟨_, rfl⟩
              have hz : z61.length = 61 := by rw [hz61]; simp
              have HZ := Lib.hid hz61
              clear hz61
              go_wp2_with (at_make; refine wpList_mkE (E := eInt) _ Try.underlying26 (z := .int .i64 0) (m := 8) (by kernel_rfl) (by decide) (0 : Int) rfl rfl _ _ rfl (w.heap.size + 1) 61 61 61 rfl rfl rfl rfl (by omega) (by have := S6.out.rdr.lt; have := S6.out.hg; have := S6.out.gr.size; have := S6.out.hX; omega) ?_; intro w7 hown7 hb7; rw [← HZ.out] at hown7; have S7 := S6.out.next hb7; have SF := Lib.hid (S7.set1 (A' := some ⟨w6.heap.size, 0, none⟩) (c' := 61) (es' := z61) (by rw [hz]; exact hown7) (by omega)); rw [hz] at SF; obtain ⟨m0, m1, m2, m3, m4, m5, m6⟩ := cell3 S7.box; clear hown7 hb7 S7)
              go_meet
              case rel => exact ⟨_, 61, key, z61, sum, by omega, SF.out.more (by omega)⟩
        case rest =>
          clear S5
          obtain ⟨A, c, key, es, sum, hh, SR⟩ := hcut
          obtain ⟨x0, x1, x2, x3, x4, x5, x6⟩ := cell3 SR.out.box
          obtain ⟨y0, y1, y2, y3, y4, y5, y6⟩ := cell3 SR.out.res
          obtain ⟨s0, s1, s2⟩ := res3 SR.out.res (.int .i64 key) (.slice A es.length c) (.int .i64 sum)
          have G3 := gset3 (w := wc) (g := w.heap.size) (.int .i64 key) (.slice A es.length c) (.int .i64 sum)
          have HF := Lib.hid (And.intro ((SR.out.own.kept G3 (fun k hk => by cases hk; omega)).more (base' := w.heap.size) (by omega)) (And.intro (((SR.out.rdr.setNew (p := ⟨w.heap.size, 0, none⟩) hgw (.int .i64 key)).setNew (p := ⟨w.heap.size, 1, none⟩) hgw (.slice A es.length c)).setNew (p := ⟨w.heap.size, 2, none⟩) hgw (.int .i64 sum)) (grown_setNew (grown_setNew (grown_setNew SR.out.gr (p := ⟨w.heap.size, 0, none⟩) (Nat.le_refl _) (.int .i64 key)) (p := ⟨w.heap.size, 1, none⟩) (Nat.le_refl _) (.slice A es.length c)) (p := ⟨w.heap.size, 2, none⟩) (Nat.le_refl _) (.int .i64 sum))))
          have hc9 := SR.out.hc
          clear G3
          go_wp2_with fail
          exact bodyPost_ret (v := .agg #[.int .i64 key, .slice A es.length c, .int .i64 sum]) (by simp [results, Try.results63, go_sem, s0, s1, s2]) rfl ⟨A, c, key, es, sum, rfl, hh, hc9, HF.out.1, HF.out.2.1, HF.out.2.2⟩
end Go.Proofs.Ytapkgncmjinedaa
