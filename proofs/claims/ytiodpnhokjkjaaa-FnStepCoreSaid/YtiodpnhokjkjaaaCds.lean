/- What the drawing functions of cores leave. -/
import Derived.Test.YtiodpnhokjkjaaaCdr
import Derived.Test.YtiodpnhokjkjaaaCot
namespace Go.Proofs.Ytiodpnhokjkjaaa
open Go.RowKit Go.Sort

/-- The reader, the result's box, a core in a box, and the program. -/
structure CQ (w0 : World) (g M X : Nat) (A : Option Addr) (c : Nat) (cs : List Int) (at' : Int) (st : Bool) (A2 : Option Addr) (c2 : Nat) (os : List Ord3) (wx : World) : Prop where
  rdr : Rdr wx g M
  gr : w0.grownBy wx (some g)
  res : wx.heap[w0.heap.size]? = some (.cells #[.slice none 0 0, .int .i64 0, .bool false] 33 (0, 0))
  box : wx.heap[X]? = some (.cells #[.slice A cs.length c, .int .i64 at', .bool st] 33 (0, 0))
  own : Own eInt 3 wx (w0.heap.size + 1) (.slice A cs.length c) cs
  ord : Own eOrd 41 wx (w0.heap.size + 1) (.slice A2 os.length c2) os
  hg : g < w0.heap.size
  hX : w0.heap.size < X
  hc : cs.length ≤ c
  hc2 : os.length ≤ c2
section
variable {w0 wx w' : World} {g M M' X : Nat} {A A' A2 A2' : Option Addr} {c c' c2 c2' : Nat} {cs cs' : List Int} {at' at2 : Int} {st st2 : Bool} {os os' : List Ord3}
theorem CQ.step (s : CQ w0 g M X A c cs at' st A2 c2 os wx) (hr : Rdr w' g M') (hg : wx.grownBy w' (some g)) : CQ w0 g M' X A c cs at' st A2 c2 os w' :=
  ⟨hr, grown_trans' s.gr hg, gblk hg s.res (by have := s.hg; simp; omega), gblk hg s.box (by have := s.hg; have := s.hX; simp; omega), s.own.kept hg (fun k hk => by cases hk; have := s.hg; omega), s.ord.kept hg (fun k hk => by cases hk; have := s.hg; omega), s.hg, s.hX, s.hc, s.hc2⟩
theorem CQ.drew (s : CQ w0 g M X A c cs at' st A2 c2 os wx) : CQ w0 g M X A c cs at' st A2 c2 os wx.drew := ⟨s.rdr, ⟨s.gr.os, s.gr.tape, s.gr.output, s.gr.size, s.gr.block⟩, s.res, s.box, s.own, s.ord, s.hg, s.hX, s.hc, s.hc2⟩
theorem CQ.next (s : CQ w0 g M X A c cs at' st A2 c2 os wx) (hb : Below wx.heap.size wx w') : CQ w0 g M X A c cs at' st A2 c2 os w' := s.step (s.rdr.next hb) (grownBy_of_below hb _)
theorem CQ.alloc (s : CQ w0 g M X A c cs at' st A2 c2 os wx) (o : Obj) : CQ w0 g M X A c cs at' st A2 c2 os (wx.alloc o) := s.next (below1 _ _)
theorem CQ.more (s : CQ w0 g M X A c cs at' st A2 c2 os wx) (hM : M ≤ M') : CQ w0 g M' X A c cs at' st A2 c2 os wx := ⟨s.rdr.more hM, s.gr, s.res, s.box, s.own, s.ord, s.hg, s.hX, s.hc, s.hc2⟩
theorem CQ.setAt (s : CQ w0 g M X A c cs at' st A2 c2 os wx) (at2 : Int) : CQ w0 g M X A c cs at2 st A2 c2 os (wx.setCell ⟨X, 1, none⟩ (.int .i64 at2)) :=
  ⟨s.rdr.setNew (by have := s.hg; have := s.hX; show g < X; omega) _, grown_setNew s.gr (p := ⟨X, 1, none⟩) (by have := s.hX; show w0.heap.size ≤ X; omega) _, gblk (gset 1 _) s.res (by have := s.hX; simp; omega), set3b s.box, s.own.keptOther (gset 1 _) (fun k hk => by cases hk; exact .inr ⟨_, _, _, s.box, by decide⟩), s.ord.keptOther (gset 1 _) (fun k hk => by cases hk; exact .inr ⟨_, _, _, s.box, by decide⟩), s.hg, s.hX, s.hc, s.hc2⟩
theorem CQ.setSt (s : CQ w0 g M X A c cs at' st A2 c2 os wx) (st2 : Bool) : CQ w0 g M X A c cs at' st2 A2 c2 os (wx.setCell ⟨X, 2, none⟩ (.bool st2)) :=
  ⟨s.rdr.setNew (by have := s.hg; have := s.hX; show g < X; omega) _, grown_setNew s.gr (p := ⟨X, 2, none⟩) (by have := s.hX; show w0.heap.size ≤ X; omega) _, gblk (gset 2 _) s.res (by have := s.hX; simp; omega), set3c s.box, s.own.keptOther (gset 2 _) (fun k hk => by cases hk; exact .inr ⟨_, _, _, s.box, by decide⟩), s.ord.keptOther (gset 2 _) (fun k hk => by cases hk; exact .inr ⟨_, _, _, s.box, by decide⟩), s.hg, s.hX, s.hc, s.hc2⟩
/-- The core's cells, as the call's own block. -/
theorem CQ.blk (s : CQ w0 g M X A c cs at' st A2 c2 os wx) {k : Nat} (hk : k < cs.length) : ∃ b, A = some ⟨b, 0, none⟩ ∧ w0.heap.size + 1 ≤ b ∧ b < wx.heap.size ∧ wx.frozen? ⟨b, k, none⟩ = false ∧ wx.cell? ⟨b, k, none⟩ = some (.int .i64 cs[k]) ∧ (∃ cur, wx.heap[b]? = some (.cells cur 3 (0, 0))) := by
  have hne : cs ≠ [] := by intro e; simp [e] at hk
  obtain ⟨A', c', hv, _, hA⟩ := s.own.form
  injection hv with hA'
  subst hA'
  obtain ⟨b, rfl, h1, h2⟩ := hA hne
  obtain ⟨bb, oo, hAA, _, e0⟩ := s.own.rd.at1 rfl hk rfl
  simp only [Option.some.injEq, Addr.mk.injEq, and_true] at hAA
  obtain ⟨rfl, rfl⟩ := hAA
  rw [Nat.zero_add] at e0
  exact ⟨b, rfl, h1, h2, s.own.frozen hne, e0, (s.own.blk hne).2⟩
theorem CQ.setCel {b k : Nat} (s : CQ w0 g M X (some ⟨b, 0, none⟩) c cs at' st A2 c2 os wx) (hk : k < cs.length) (v : Int) : CQ w0 g M X (some ⟨b, 0, none⟩) c (cs.set k v) at' st A2 c2 os (wx.setCell ⟨b, k, none⟩ (.int .i64 v)) := by
  obtain ⟨b', hbb, h1, h2, _, _, cur, hcur⟩ := s.blk hk
  simp only [Option.some.injEq, Addr.mk.injEq, and_true] at hbb
  subst hbb
  have h3 := s.own.set (i := k) (j := 0) (x := cs[k]) (y := v) (u := .int .i64 v) (List.getElem?_eq_getElem hk) (by decide) rfl
  have hbX : b ≠ X := fun e => by
    subst e
    have := s.box
    rw [hcur] at this
    injection this with this
    injection this with _ this
    exact absurd this (by decide)
  refine ⟨s.rdr.setNew (by have := s.hg; show g < b; omega) _, grown_setNew s.gr (p := ⟨b, k, none⟩) (by show w0.heap.size ≤ b; omega) _, gblk (gset k _) s.res (by simp; omega), by rw [List.length_set]; exact gblk (gset k _) s.box (by simp; exact fun e => hbX e.symm), by rw [List.length_set]; simpa using h3, s.ord.keptOther (gset k _) (fun k hk => by cases hk; exact .inr ⟨_, _, _, hcur, by decide⟩), s.hg, s.hX, by rw [List.length_set]; exact s.hc, s.hc2⟩
/-- Another program. -/
theorem CQ.prog (s : CQ w0 g M X A c cs at' st A2 c2 os wx) (hp : PL wx g M' A2' c2' os' w') : CQ w0 g M' X A c cs at' st A2' c2' os' w' := by
  have h1 := s.step hp.rdr hp.gr
  have h2 : w0.heap.size + 1 ≤ wx.heap.size := by have := (Array.getElem?_eq_some_iff.1 s.res).1; omega
  exact ⟨h1.rdr, h1.gr, h1.res, h1.box, h1.own, hp.own.more h2, h1.hg, h1.hX, h1.hc, hp.hc⟩
/-- A cell more: the append's result stored into the box. -/
theorem CQ.app {row : Option Nat} (s : CQ w0 g M X A c cs at' st A2 c2 os wx) (hg : wx.grownBy w' row) (hrow : ∀ k, row = some k → w0.heap.size + 1 ≤ k ∧ ∃ cur, wx.heap[k]? = some (.cells cur 3 (0, 0))) (ho : Own eInt 3 w' (w0.heap.size + 1) (.slice A' cs'.length c') cs') (hc' : cs'.length ≤ c') :
    (∃ x, w'.heap[X]? = some (.cells x 33 (0, 0)) ∧ x = #[.slice A cs.length c, .int .i64 at', .bool st]) ∧ CQ w0 g M X A' c' cs' at' st A2 c2 os (w'.setCell ⟨X, 0, none⟩ (.slice A' cs'.length c')) := by
  have h1 := s.hg
  have h2 := s.hX
  have hb : w'.heap[X]? = some (.cells #[.slice A cs.length c, .int .i64 at', .bool st] 33 (0, 0)) := gblk hg s.box (fun e => by
    obtain ⟨cur, hcur⟩ := (hrow _ e.symm).2
    have hq := s.box
    rw [hcur] at hq
    injection hq with hq
    injection hq with _ hq
    exact absurd hq (by decide))
  have hord : Own eOrd 41 w' (w0.heap.size + 1) (.slice A2 os.length c2) os := s.ord.keptOther hg (fun k hk => by obtain ⟨cur, hcur⟩ := (hrow k hk).2; exact .inr ⟨_, _, _, hcur, by decide⟩)
  refine ⟨⟨_, hb, rfl⟩, (s.rdr.grown hg (fun k hk => by have := (hrow k hk).1; omega)).setNew (by show g < X; omega) _, grown_setNew (grown_new s.gr hg (fun k hk => by have := (hrow k hk).1; omega)) (p := ⟨X, 0, none⟩) (by show w0.heap.size ≤ X; omega) _, gblk (gset 0 _) (gblk hg s.res (fun e => by have := (hrow _ e.symm).1; omega)) (by simp; omega), set3a hb, ho.keptOther (gset 0 _) (fun k hk => by cases hk; exact .inr ⟨_, _, _, hb, by decide⟩), hord.keptOther (gset 0 _) (fun k hk => by cases hk; exact .inr ⟨_, _, _, hb, by decide⟩), s.hg, s.hX, hc', s.hc2⟩
end

/-- What the drawing of a core leaves. -/
def CoreDrawn (w : World) (g M : Nat) (e : Ending) (w' : World) : Prop :=
  ∃ A c cr A2 c2 os cells, e = .returned (.tuple #[.agg #[.slice A (cr : Cor).cs.length c, .int .i64 cr.at', .bool cr.stop], .slice A2 (os : List Ord3).length c2, .int .i64 cells]) ∧ cr.cs.length ≤ 5 ∧ cr.cs.length ≤ c ∧ os.length ≤ 21 ∧ os.length ≤ c2 ∧ Own eInt 3 w' w.heap.size (.slice A cr.cs.length c) cr.cs ∧ Own eOrd 41 w' w.heap.size (.slice A2 os.length c2) os ∧ Rdr w' g (M + 200) ∧ w.grownBy w' (some g)

set_option maxRecDepth 100000 in
set_option maxHeartbeats 6400000 in
theorem callDrawCore (g M : Nat) (n : Int) (w : World) (hr : Rdr w g M) (hM : M ≤ 700000) :
    Calls Try.prog 55 #[.pointer (some ⟨g, 0, none⟩), .int .i64 n] w (CoreDrawn w g M) := by
  have hgw := hr.lt
  have HR := Lib.hid hr
  clear hr
  go_enter Try.func55, Try.ntmps55
  go_wp2_with fail
  refine (callPick g M _ _ (HR.out.alloc _) (by omega)).mono ?_
  rintro e w1 ⟨k1, rfl, a1, a2, _, hr1, hg1⟩
  obtain ⟨j0, rfl⟩ := Int.eq_ofNat_of_zero_le a1
  have hj0 : j0 ≤ 3 := by omega
  have K1 := Lib.hid (gblk hg1 (heap_alloc_new w (.cells #[.slice none 0 0, .int .i64 0, .bool false] 33)) (by simp; omega))
  have H1 := Lib.hid (And.intro hr1 (grown_trans' (grown_alloc (World.grownBy.refl w _) _) hg1))
  have hs1 : w.heap.size < w1.heap.size := (cell3 K1.out).2.2.2.2.2.2
  clear a1 a2 hr1 hg1
  go_wp2_with fail
  refine (callDrawProgram g _ (1 + (j0 : Int)) 0 w1 H1.out.1 (by omega) (by omega) (by omega)).mono ?_
  rintro e w2 ⟨A2, c2, os, rfl, ho1, ho2, hp2⟩
  have K2 := Lib.hid (gblk hp2.gr K1.out (by simp; omega))
  have H2 := Lib.hid (grown_trans' H1.out.2 hp2.gr)
  have HP := Lib.hid hp2
  have hs2 : w1.heap.size ≤ w2.heap.size := hp2.gr.size
  clear hp2 H1 K1
  have NC : Hid (Calls Try.prog 40 #[.int .i64 (1 + (j0 : Int))] w2 (CorRes w2 ⟨List.replicate (1 + j0) 0, 0, false⟩)) := callSNewCore (1 + j0) w2 (by omega) (by omega)
  go_wp2_with fail
  refine NC.out.mono ?_
  rintro e w3 ⟨A, c, rfl, hown, hcc, hb3⟩
  obtain ⟨z, hz⟩ : ∃ z : List Int, z = List.replicate (1 + j0) 0 := ⟨_, rfl⟩
  have hzl : z.length = 1 + j0 := by rw [hz]; simp
  simp only at hown hcc ⊢
  rw [← hz] at hown hcc ⊢
  have HZL := Lib.hid hzl
  clear hz NC hzl
  have S3 : Hid (CQ w g (M + 1 + 60) w3.heap.size A c z 0 false A2 c2 os (w3.alloc (.cells #[.slice A z.length c, .int .i64 0, .bool false] 33))) := by
    have hb := bel_trans hb3 (below1 w3 (.cells #[.slice A z.length c, .int .i64 0, .bool false] 33))
    exact ⟨HP.out.rdr.next hb, grown_below H2.out hb, blkc K2.out hb, heap_alloc_new w3 _, (hown.more (by omega)).alloc _, (HP.out.own.more (by omega)).next hb, hgw, by have := hb3.size; omega, hcc, HP.out.hc⟩
  go_upto_region 4 with (fail)
  obtain ⟨X, hX⟩ : ∃ X, X = w3.heap.size := ⟨_, rfl⟩
  obtain ⟨u3, hu3⟩ : ∃ u3, u3 = w3.alloc (.cells #[.slice A z.length c, .int .i64 0, .bool false] 33) := ⟨_, rfl⟩
  rw [← hX, ← hu3] at S3 ⊢
  clear hX hu3 hown hcc hb3 HP H2 K2 hs2 hs1
  go_wp2_with fail
  go_loopw [10] (fun i wr => ∃ (k : Nat) (cs : List Int), i = .int .i64 k ∧ k ≤ 1 + j0 ∧ cs.length = 1 + j0 ∧ Hid (CQ w g (M + 61 + 2 * k) X A c cs 0 false A2 c2 os wr)) (fun i _ => 1 + j0 - (intOf i).toNat)
  case atStart => exact ⟨0, z, rfl, by omega, HZL.out, S3.out⟩
  case round =>
    obtain ⟨k, cs, rfl, hk, hcl, SR⟩ := hrel
    clear S3 HZL
    have HCL := Lib.hid hcl
    by_cases hlt : k < 1 + j0
    · have hd : decide ((k : Int) < 1 + (j0 : Int)) = true := decide_eq_true (by omega)
      have hkc : k < cs.length := by omega
      clear hcl
      go_upto_region 7 with (fail)
      obtain ⟨b, rfl, hb1, hb2, hb3, hb4, _⟩ := SR.out.blk hkc
      obtain ⟨x0, x1, x2, _, _, _, x6⟩ := cell3 SR.out.box
      have hM1 : M + 61 + 2 * k ≤ 1000000 := by omega
      have hM2 : M + 61 + 2 * k + 1 ≤ 1000000 := by omega
      have hgr : g < wr.heap.size := SR.out.rdr.lt
      go_region_law (first
        | (go_simp; go_at_call 47; (with_reducible refine (callPick g _ _ _ SR.out.drew.rdr hM1).mono ?_); rintro e w5 ⟨p, rfl, d1, d2, _, hr5, hg5⟩; have d3 : p < 256 := d2 (by omega); have hg5' : g < w5.heap.size := hr5.lt; have S5 := Lib.hid (SR.out.drew.step hr5 hg5); clear hr5 hg5 d2; obtain ⟨n0, n1, n2, _, _, _, n6⟩ := cell3 S5.out.box; obtain ⟨b', hbb, _, n7, n8, n9, _⟩ := S5.out.blk hkc; simp only [Option.some.injEq, Addr.mk.injEq, and_true] at hbb; subst hbb)
        | (go_simp; go_at_call 47; (with_reducible refine (callPick g _ _ _ (S5.out.alloc _).rdr hM2).mono ?_); rintro e w6 ⟨q, rfl, e1, e2, _, hr6, hg6⟩; obtain ⟨kk, y, rfl, hy, _, _⟩ := litc (w := w6) (g := w5.heap.size) [0, p, 255] (gblk hg6 (heap_alloc_new w5 _) (by simp; omega)) (lo := 0) (hi := 255) (by simp; omega) e1 (by have := e2 (by omega); simp; omega); have hk3 : (kk : Int) < 3 := e2 (by omega); have S6 := Lib.hid ((S5.out.alloc _).step hr6 hg6); clear hr6 hg6 e2; obtain ⟨m0, m1, m2, _, _, _, m6⟩ := cell3 S6.out.box; obtain ⟨b', hbb, _, m7, m8, m9, _⟩ := S6.out.blk hkc; simp only [Option.some.injEq, Addr.mk.injEq, and_true] at hbb; subst hbb; have SF := Lib.hid (S6.out.setCel hkc y))
        | (go_simp; go_at_call 47; (with_reducible refine (callPick g _ _ _ S5.out.rdr hM2).mono ?_); rintro e w6 ⟨q, rfl, e1, e2, _, hr6, hg6⟩; have hk3' : q < 3 := e2 (by omega); have S6 := Lib.hid (S5.out.step hr6 hg6); clear hr6 hg6 e2; obtain ⟨kk, y, rfl, hy, _, _⟩ := litc (w := w6.alloc (.cells #[.int .i64 0, .int .i64 p, .int .i64 255] 3)) (g := w6.heap.size) [0, p, 255] (heap_alloc_new w6 _) (lo := 0) (hi := 255) (by simp; omega) e1 (by simp; omega); obtain ⟨m0, m1, m2, _, _, _, m6⟩ := cell3 S6.out.box; obtain ⟨b', hbb, _, m7, m8, m9, _⟩ := S6.out.blk hkc; simp only [Option.some.injEq, Addr.mk.injEq, and_true] at hbb; subst hbb; have SF := Lib.hid ((S6.out.setCel hkc y).alloc (.cells #[.int .i64 0, .int .i64 p, .int .i64 255] 3))))
      all_goals
        go_wp2_with fail
        go_roundw
        case rel => exact ⟨k + 1, cs.set k y, by go_num, by omega, by rw [List.length_set]; exact HCL.out, SF.out.more (by omega)⟩
        case measure => simp [intOf]; omega
    · have hd : decide ((k : Int) < 1 + (j0 : Int)) = false := decide_eq_false (by omega)
      have hk4 : k ≤ 4 := by omega
      have hps : 0 < cs.length := by omega
      have hc4 : cs.length ≤ 4 := by omega
      clear hcl
      obtain ⟨x0, x1, x2, x3, x4, x5, x6⟩ := cell3 SR.out.box
      go_wp2_with fail
      refine (callPick g _ _ _ SR.out.rdr (by omega)).mono ?_
      rintro e w5 ⟨pa, rfl, _, _, _, hr5, hg5⟩
      have S5 := Lib.hid (SR.out.step hr5 hg5)
      clear hr5 hg5 SR x0 x1 x2 x3 x4 x5 x6
      obtain ⟨x0, x1, x2, x3, x4, x5, x6⟩ := cell3 S5.out.box
      have S6 := Lib.hid (S5.out.setAt pa)
      go_wp2_with fail
      refine (callPick g _ _ _ S6.out.rdr (by omega)).mono ?_
      rintro e w7 ⟨pb, rfl, _, _, _, hr7, hg7⟩
      have S7 := Lib.hid (S6.out.step hr7 hg7)
      clear hr7 hg7 S6 S5 x0 x1 x2 x3 x4 x5 x6
      obtain ⟨x0, x1, x2, x3, x4, x5, x6⟩ := cell3 S7.out.box
      have S8 := Lib.hid (S7.out.setSt (decide (pb = 0)))
      go_wp2_with fail
      refine (callOdd g _ _ _ S8.out.rdr (by omega)).mono ?_
      rintro e w9 ⟨o1, rfl, hr9, hg9⟩
      have S9 := Lib.hid ((S8.out.step hr9 hg9).more (M' := M + 100) (by omega))
      obtain ⟨st, hst⟩ : ∃ st, st = decide (pb = 0) := ⟨_, rfl⟩
      rw [← hst] at S9
      clear hst hr9 hg9 S8 S7 x0 x1 x2 x3 x4 x5 x6
      go_upto_if 46 with (fail)
      go_cut [8] (fun s8 wx => ∃ A c cs at' st A2 c2 os, s8 = .slice A2 (os : List Ord3).length c2 ∧ cs.length ≤ 5 ∧ os.length ≤ 21 ∧ Hid (CQ w g (M + 170) X A c cs at' st A2 c2 os wx))
      case first =>
        cases o1
        · go_wp2_with fail
          go_meet
          case rel => exact ⟨A, c, cs, pa, st, A2, c2, os, rfl, by omega, ho2, S9.out.more (by omega)⟩
        · go_wp2_with fail
          refine (callPick g _ _ _ S9.out.rdr (by omega)).mono ?_
          rintro e w10 ⟨q, rfl, f1, f2, _, hr10, hg10⟩
          have hq4 : q = 0 ∨ q = 1 ∨ q = 2 ∨ q = 3 := by have := f2 (by omega); omega
          have S10 := Lib.hid (S9.out.step hr10 hg10)
          have HMM : Hid (M + 100 + 1 + 1 ≤ 1000000) := by show _ ≤ _; omega
          clear hr10 hg10 S9 f2
          rcases hq4 with rfl | rfl | rfl | rfl
          · go_upto_region 14 with (fail)
            obtain ⟨b, rfl, hb1, hb2, hb3, hb4, _⟩ := S10.out.blk hps
            obtain ⟨x0, x1, x2, _, _, _, x6⟩ := cell3 S10.out.box
            have hM1 : M + 100 + 1 ≤ 1000000 := by omega
            have hgr : g < w10.heap.size := S10.out.rdr.lt
            go_region_law (first
              | (go_simp; go_at_call 47; (with_reducible refine (callPick g _ _ _ (S10.out.alloc _).drew.rdr hM1).mono ?_); rintro e w6 ⟨q, rfl, e1, e2, _, hr6, hg6⟩; have hg6' : g < w6.heap.size := hr6.lt; obtain ⟨kk, y, rfl, hy, _, _⟩ := litc (w := w6) (g := w10.heap.size) [-1, 256] (gblk (a := (w10.alloc (.cells #[.int .i64 (-1), .int .i64 256] 3)).drew) hg6 (heap_alloc_new w10 _) (by simp; omega)) (lo := -1) (hi := 256) (by simp) e1 (by have := e2 (by omega); simp; omega); have hk3 : (kk : Int) < 2 := e2 (by omega); have S6 := Lib.hid ((S10.out.alloc _).drew.step hr6 hg6); clear hr6 hg6 e2; obtain ⟨m0, m1, m2, _, _, _, m6⟩ := cell3 S6.out.box; obtain ⟨b', hbb, _, m7, m8, m9, _⟩ := S6.out.blk hps; simp only [Option.some.injEq, Addr.mk.injEq, and_true] at hbb; subst hbb; have SF := Lib.hid (S6.out.setCel hps y))
              | (go_simp; go_at_call 47; (with_reducible refine (callPick g _ _ _ S10.out.drew.rdr hM1).mono ?_); rintro e w6 ⟨q, rfl, e1, e2, _, hr6, hg6⟩; have hk3' : q < 2 := e2 (by omega); have hg6' : g < w6.heap.size := hr6.lt; have S6 := Lib.hid (S10.out.drew.step hr6 hg6); clear hr6 hg6 e2; obtain ⟨kk, y, rfl, hy, _, _⟩ := litc (w := w6.alloc (.cells #[.int .i64 (-1), .int .i64 256] 3)) (g := w6.heap.size) [-1, 256] (heap_alloc_new w6 _) (lo := -1) (hi := 256) (by simp) e1 (by simp; omega); obtain ⟨m0, m1, m2, _, _, _, m6⟩ := cell3 S6.out.box; obtain ⟨b', hbb, _, m7, m8, m9, _⟩ := S6.out.blk hps; simp only [Option.some.injEq, Addr.mk.injEq, and_true] at hbb; subst hbb; have SF := Lib.hid ((S6.out.setCel hps y).alloc (.cells #[.int .i64 (-1), .int .i64 256] 3))))
            all_goals
              go_wp2_with fail
              go_meet
              case rel => exact ⟨_, c, cs.set 0 y, pa, st, A2, c2, os, rfl, by rw [List.length_set]; omega, ho2, SF.out.more (by omega)⟩
          · go_wp2_with fail
            refine (callPick g _ _ _ (S10.out.alloc _).rdr (by omega)).mono ?_
            rintro e w6 ⟨q, rfl, e1, e2, _, hr6, hg6⟩
            obtain ⟨kk, y, rfl, hy⟩ : ∃ (kk : Nat) (y : Int), q = kk ∧ w6.cell? ⟨w10.heap.size, kk, none⟩ = some (.int .i64 y) := by
              obtain ⟨kk, y, h1, h2, _⟩ := litc (w := w6) (g := w10.heap.size) [-1, (os.length : Int)] (gblk hg6 (heap_alloc_new w10 _) (by simp; have := S10.out.rdr.lt; omega)) (lo := -1) (hi := 21) (by simp; omega) e1 (by have := e2 (by omega); simp; omega)
              exact ⟨kk, y, h1, h2⟩
            have hk3 : (kk : Int) < 2 := e2 (by omega)
            have S6 := Lib.hid ((S10.out.alloc _).step hr6 hg6)
            clear hr6 hg6 e2 S10
            obtain ⟨x0, x1, x2, x3, x4, x5, x6⟩ := cell3 S6.out.box
            go_wp2_with fail
            go_meet
            case rel => exact ⟨A, c, cs, y, st, A2, c2, os, rfl, by omega, ho2, (S6.out.setAt y).more (by omega)⟩
          · obtain ⟨x0, x1, x2, x3, x4, x5, x6⟩ := cell3 S10.out.box
            obtain ⟨cs2, hcs2⟩ : ∃ cs2, cs2 = cs ++ [(0 : Int)] := ⟨_, rfl⟩
            have HC2 := Lib.hid hcs2
            have hl2 : cs2.length ≤ 5 := by rw [hcs2]; simp; omega
            clear hcs2
            go_wp2_with (at_builtin; refine wpList_app _ eiInt rfl (.tmp 75) (.tmp 76) rfl (w.heap.size + 1) (S10.out.alloc _).own (Rd.new (E := eInt) (xs := [(0 : Int)]) _ _ _ rfl) rfl rfl rfl (by simp; omega) (by have := S10.out.rdr.lt; have := S10.out.hg; have := S10.out.gr.size; have := S10.out.hX; simp; omega) ?_; intro v' w7 row hown7 hg7 hrow7; rw [← HC2.out] at hown7; obtain ⟨A7, c7, hv7, hc7, _⟩ := hown7.form; subst hv7; have H7 := Lib.hid ((S10.out.alloc _).app hg7 (fun k hk => ⟨(hrow7 k hk).1, (hrow7 k hk).2.2⟩) hown7 hc7); obtain ⟨⟨xx, hxx, rfl⟩, hCQ⟩ := H7.out; have SF := Lib.hid hCQ; obtain ⟨m0, m1, m2, m3, m4, m5, m6⟩ := cell3 hxx; clear hown7 hg7 hrow7 H7 hCQ hxx)
            go_meet
            case rel => exact ⟨A7, c7, cs2, pa, st, A2, c2, os, rfl, hl2, ho2, SF.out.more (by omega)⟩
          · go_wp2_with fail
            refine (callDrawProgram g _ (1 + (j0 : Int)) 1 w10 S10.out.rdr (by omega) (by omega) (by omega)).mono ?_
            rintro e w6 ⟨A6, c6, os6, rfl, ho61, ho62, hp6⟩
            have SF := Lib.hid (S10.out.prog hp6)
            clear hp6 S10
            go_wp2_with fail
            go_meet
            case rel => exact ⟨A, c, cs, pa, st, A6, c6, os6, rfl, by omega, ho62, SF.out.more (by omega)⟩
      case rest =>
        clear S9
        obtain ⟨A, c, cs, at', st, A2, c2, os, rfl, hl5, hl21, SR⟩ := hcut
        obtain ⟨x0, x1, x2, x3, x4, x5, x6⟩ := cell3 SR.out.box
        obtain ⟨y0, y1, y2, y3, y4, y5, y6⟩ := cell3 SR.out.res
        obtain ⟨s0, s1, s2⟩ := res3 SR.out.res (.slice A cs.length c) (.int .i64 at') (.bool st)
        have G3 := gset3 (w := wc) (g := w.heap.size) (.slice A cs.length c) (.int .i64 at') (.bool st)
        have HF := Lib.hid (And.intro ((SR.out.own.kept G3 (fun k hk => by cases hk; omega)).more (base' := w.heap.size) (by omega)) (And.intro ((SR.out.ord.kept G3 (fun k hk => by cases hk; omega)).more (base' := w.heap.size) (by omega)) (And.intro (rdr3 SR.out.rdr hgw (.slice A cs.length c) (.int .i64 at') (.bool st)) (grown3 SR.out.gr (Nat.le_refl _) (.slice A cs.length c) (.int .i64 at') (.bool st)))))
        have hc9 := SR.out.hc
        have hc10 := SR.out.hc2
        clear G3
        go_wp2_with fail
        exact bodyPost_ret (v := .tuple #[.agg #[.slice A cs.length c, .int .i64 at', .bool st], .slice A2 os.length c2, .int .i64 (1 + (j0 : Int))]) (by simp [results, Try.results55, go_sem, s0, s1, s2]) rfl ⟨A, c, ⟨cs, at', st⟩, A2, c2, os, 1 + j0, rfl, hl5, hc9, hl21, hc10, HF.out.1, HF.out.2.1, HF.out.2.2.1.more (by omega), HF.out.2.2.2⟩
end Go.Proofs.Ytiodpnhokjkjaaa
