/- What the drawing functions of a setup leave. -/
import Derived.Test.YtiodpnhokjkjaaaDrp
import Derived.Test.YtiodpnhokjkjaaaDrs
import Derived.Test.YtiodpnhokjkjaaaFlh
namespace Go.Proofs.Ytiodpnhokjkjaaa
open Go.RowKit Go.Sort

theorem OwnP.otherT {w w' : World} {base X : Nat} {v : Value} {ps : List Prt} (h : OwnP w base v ps) (hg : w.grownBy w' (some X)) {cur : Array Value} {fr : Nat × Nat} (hb : w.heap[X]? = some (.cells cur 60 fr)) : OwnP w' base v ps :=
  ⟨h.1.keptOther hg (fun k hk => by cases hk; exact .inr ⟨cur, _, _, hb, by decide⟩), fun p hp => (h.2 p hp).grown hg (fun k hk => by cases hk; exact .inr ⟨cur, _, _, hb, by decide⟩)⟩

/-- The reader, the box of the result, and the box of the setup. -/
structure SU (w : World) (g M X : Nat) (Ap : Option Addr) (cp : Nat) (ps : List Prt) (Ac : Option Addr) (cc : Nat) (cs : List Chn) (As : Option Addr) (cl : Nat) (ss : List Slt) (wx : World) : Prop where
  rdr : Rdr wx g M
  gr : w.grownBy wx (some g)
  res : wx.heap[w.heap.size]? = some (.cells #[.slice none 0 0, .slice none 0 0, .slice none 0 0] 60 (0, 0))
  box : wx.heap[X]? = some (.cells #[.slice Ap ps.length cp, .slice Ac cs.length cc, .slice As ss.length cl] 60 (0, 0))
  ownp : OwnP wx w.heap.size (.slice Ap ps.length cp) ps
  ownc : Own eChn 64 wx w.heap.size (.slice Ac cs.length cc) cs
  owns : Own eSlt 116 wx w.heap.size (.slice As ss.length cl) ss
  hg : g < w.heap.size
  hX : w.heap.size < X
section
variable {w wx w' : World} {g M M' X : Nat} {Ap Ac As : Option Addr} {cp cc cl : Nat} {ps : List Prt} {cs : List Chn} {ss : List Slt}
theorem SU.step (s : SU w g M X Ap cp ps Ac cc cs As cl ss wx) (hr : Rdr w' g M') (hg : wx.grownBy w' (some g)) : SU w g M' X Ap cp ps Ac cc cs As cl ss w' := by
  have h1 := s.hg
  have h2 := s.hX
  exact ⟨hr, grown_trans' s.gr hg, gblk hg s.res (by simp; omega), gblk hg s.box (by simp; omega), s.ownp.pick hg h1, s.ownc.kept hg (fun k hk => by cases hk; exact h1), s.owns.kept hg (fun k hk => by cases hk; exact h1), h1, h2⟩
theorem SU.setc {A' : Option Addr} {c' : Nat} {xs : List Chn} (s : SU w g M X Ap cp ps Ac cc cs As cl ss wx) (ho : Own eChn 64 wx w.heap.size (.slice A' xs.length c') xs) : SU w g M X Ap cp ps A' c' xs As cl ss (wx.setCell ⟨X, 1, none⟩ (.slice A' xs.length c')) := by
  have h1 := s.hg
  have h2 := s.hX
  have G := gset (w := wx) (g := X) 1 (.slice A' xs.length c')
  exact ⟨s.rdr.setNew (p := ⟨X, 1, none⟩) (by show g < X; omega) _, grown_setNew s.gr (p := ⟨X, 1, none⟩) (by show _ ≤ X; omega) _, gblk G s.res (by simp; omega), set3b s.box, s.ownp.otherT G s.box, ho.keptOther G (fun k hk => by cases hk; exact .inr ⟨_, _, _, s.box, by decide⟩), s.owns.keptOther G (fun k hk => by cases hk; exact .inr ⟨_, _, _, s.box, by decide⟩), h1, h2⟩
theorem SU.sets {A' : Option Addr} {c' : Nat} {xs : List Slt} (s : SU w g M X Ap cp ps Ac cc cs As cl ss wx) (ho : Own eSlt 116 wx w.heap.size (.slice A' xs.length c') xs) : SU w g M X Ap cp ps Ac cc cs A' c' xs (wx.setCell ⟨X, 2, none⟩ (.slice A' xs.length c')) := by
  have h1 := s.hg
  have h2 := s.hX
  have G := gset (w := wx) (g := X) 2 (.slice A' xs.length c')
  exact ⟨s.rdr.setNew (p := ⟨X, 2, none⟩) (by show g < X; omega) _, grown_setNew s.gr (p := ⟨X, 2, none⟩) (by show _ ≤ X; omega) _, gblk G s.res (by simp; omega), set3c s.box, s.ownp.otherT G s.box, s.ownc.keptOther G (fun k hk => by cases hk; exact .inr ⟨_, _, _, s.box, by decide⟩), ho.keptOther G (fun k hk => by cases hk; exact .inr ⟨_, _, _, s.box, by decide⟩), h1, h2⟩
end
/-- Behind three stores into a box of a setup that stands at b. -/
theorem setup3 {w : World} {base b : Nat} {x y z : Value} {Ap Ac As : Option Addr} {cp cc cl : Nat} {ps : List Prt} {cs : List Chn} {ss : List Slt}
    (h : w.heap[b]? = some (.cells #[x, y, z] 60 (0, 0))) (u v t : Value)
    (hp : OwnP w base (.slice Ap ps.length cp) ps) (hc : Own eChn 64 w base (.slice Ac cs.length cc) cs) (hs : Own eSlt 116 w base (.slice As ss.length cl) ss) :
    OwnP (((w.setCell ⟨b, 0, none⟩ u).setCell ⟨b, 1, none⟩ v).setCell ⟨b, 2, none⟩ t) base (.slice Ap ps.length cp) ps ∧ Own eChn 64 (((w.setCell ⟨b, 0, none⟩ u).setCell ⟨b, 1, none⟩ v).setCell ⟨b, 2, none⟩ t) base (.slice Ac cs.length cc) cs ∧ Own eSlt 116 (((w.setCell ⟨b, 0, none⟩ u).setCell ⟨b, 1, none⟩ v).setCell ⟨b, 2, none⟩ t) base (.slice As ss.length cl) ss := by
  have G := gset3 (w := w) (g := b) u v t
  exact ⟨hp.otherT G h, hc.keptOther G (fun k hk => by cases hk; exact .inr ⟨_, _, _, h, by decide⟩), hs.keptOther G (fun k hk => by cases hk; exact .inr ⟨_, _, _, h, by decide⟩)⟩
def Setup3 (base : Nat) (n : Value) (w' : World) : Prop :=
  ∃ Ap cp ps Ac cc cs As cl ss, n = .agg #[.slice Ap (ps : List Prt).length cp, .slice Ac (cs : List Chn).length cc, .slice As (ss : List Slt).length cl] ∧ ps.length ≤ 10 ∧ cs.length ≤ 9 ∧ ss.length ≤ 20 ∧ OwnP w' base (.slice Ap ps.length cp) ps ∧ Own eChn 64 w' base (.slice Ac cs.length cc) cs ∧ Own eSlt 116 w' base (.slice As ss.length cl) ss

set_option maxRecDepth 100000 in
set_option maxHeartbeats 3200000 in
theorem callDrawSetup (g M : Nat) (n : Int) (w : World) (hr : Rdr w g M) (hM : M ≤ 500000) :
    Calls Try.prog 69 #[.pointer (some ⟨g, 0, none⟩), .int .i64 n] w fun e w' => ∃ v, e = .returned v ∧ Setup3 w.heap.size v w' ∧ w.grownBy w' (some g) := by
  have hgw := hr.lt
  have HR := Lib.hid (hr.alloc (.cells #[.slice none 0 0, .slice none 0 0, .slice none 0 0] 60))
  have HZ := Lib.hid (heap_alloc_new w (.cells #[.slice none 0 0, .slice none 0 0, .slice none 0 0] 60))
  have HG0 : Hid (w.grownBy (w.alloc (.cells #[.slice none 0 0, .slice none 0 0, .slice none 0 0] 60)) (some g)) := grown_alloc (World.grownBy.refl w _) _
  clear hr
  go_enter Try.func69, Try.ntmps69
  go_wp2_with fail
  refine (callDrawParts g M n _ HR.out (by omega)).mono ?_
  rintro e w1 ⟨Ap, cp, ps, rfl, hown, hp0, hp1, hr1, hg1⟩
  have hs1 : w.heap.size < w1.heap.size := by have := hg1.size; simp at this; omega
  have S1 : Hid (SU w g (M + 2000) w1.heap.size Ap cp ps none 0 [] none 0 [] (w1.alloc (.cells #[.slice Ap ps.length cp, .slice none 0 0, .slice none 0 0] 60))) :=
    ⟨hr1.alloc _, grown_alloc (grown_trans' HG0.out hg1) _, blkc (gblk hg1 HZ.out (by simp; omega)) (below1 w1 _), heap_alloc_new w1 _, ⟨(hown.1.more (by simp)).alloc _, fun p hp => ⟨((hown.2 p hp).1.more (by simp)).alloc _, (hown.2 p hp).2⟩⟩, Own.none_, Own.none_, hgw, hs1⟩
  clear hown hr1 hg1 HR HZ HG0
  obtain ⟨X, hX⟩ : ∃ X, X = w1.heap.size := ⟨_, rfl⟩
  go_upto_region 2 with (fail)
  obtain ⟨w2, hw2⟩ : ∃ w2, w2 = w1.alloc (.cells #[.slice Ap ps.length cp, .slice none 0 0, .slice none 0 0] 60) := ⟨_, rfl⟩
  rw [← hw2, ← hX] at S1 ⊢
  clear hw2 hX hs1
  obtain ⟨m0, m1, m2, m3, m4, m5, m6⟩ := cell3 S1.out.box
  go_wp2_with fail
  refine (callDrawChannels g _ (ps.length : Int) n w2 S1.out.rdr (by omega) (by omega) (by omega)).mono ?_
  rintro e w3 ⟨Ac, cc, cs, rfl, hl9, hcl⟩
  have S3' := Lib.hid (S1.out.step hcl.rdr hcl.gr)
  have S3 := Lib.hid (S3'.out.setc (hcl.own.more S1.out.gr.size))
  clear hcl S1 m0 m1 m2 m3 m4 m5 m6
  obtain ⟨m0, m1, m2, m3, m4, m5, m6⟩ := cell3 S3'.out.box
  obtain ⟨n0, n1, n2, n3, n4, n5, n6⟩ := cell3 S3.out.box
  clear S3'
  go_wp2_with fail
  refine (callDrawSlots g _ (ps.length : Int) n _ S3.out.rdr (by omega) (by omega) (by omega)).mono ?_
  rintro e w4 ⟨As, cl, ss, rfl, howns, hl20, hr4, hg4⟩
  have S4' := Lib.hid (S3.out.step hr4 hg4)
  have S4 := Lib.hid (S4'.out.sets (howns.more S3.out.gr.size))
  clear howns hr4 hg4 S3 m0 m1 m2 m3 m4 m5 m6 n0 n1 n2 n3 n4 n5 n6
  obtain ⟨m0, m1, m2, m3, m4, m5, m6⟩ := cell3 S4'.out.box
  obtain ⟨n0, n1, n2, n3, n4, n5, n6⟩ := cell3 S4.out.box
  obtain ⟨p0, p1, p2, p3, p4, p5, p6⟩ := cell3 S4.out.res
  have HF := Lib.hid (setup3 S4.out.res (.slice Ap ps.length cp) (.slice Ac cs.length cc) (.slice As ss.length cl) S4.out.ownp S4.out.ownc S4.out.owns)
  have HGF : Hid (w.grownBy _ (some g)) := grown_setNew (grown_setNew (grown_setNew S4.out.gr (p := ⟨w.heap.size, 0, none⟩) (Nat.le_refl _) (.slice Ap ps.length cp)) (p := ⟨w.heap.size, 1, none⟩) (Nat.le_refl _) (.slice Ac cs.length cc)) (p := ⟨w.heap.size, 2, none⟩) (Nat.le_refl _) (.slice As ss.length cl)
  obtain ⟨f0, f1, f2, _, _, _, _⟩ := cell3 (set3 (u := .slice Ap ps.length cp) (v := .slice Ac cs.length cc) (t := .slice As ss.length cl) S4.out.res)
  clear S4'
  go_wp2_with fail
  exact bodyPost_ret (v := .agg #[.slice Ap ps.length cp, .slice Ac cs.length cc, .slice As ss.length cl]) (by simp [results, Try.results69, go_sem, f0, f1, f2]) rfl ⟨_, rfl, ⟨Ap, cp, ps, Ac, cc, cs, As, cl, ss, rfl, hp1, hl9, hl20, HF.out.1, HF.out.2.1, HF.out.2.2⟩, HGF.out⟩
set_option maxRecDepth 100000 in
set_option maxHeartbeats 3200000 in
theorem callDrawSetupValid (A : Option Addr) (c : Nat) (bs : List Int) (w : World) (hc : bs.length ≤ c) (hm : bs.length ≤ 1048576) (hr : Rd eU8 w w.heap.size A bs) (hby : ∀ x ∈ bs, 0 ≤ x ∧ x ≤ 255) :
    Calls Try.prog 36 #[.slice A bs.length c] w fun e w' => ∃ Ap cp ps Ac cc cs As cl ss, e = .returned (.agg #[.slice Ap (ps : List Prt).length cp, .slice Ac (cs : List Chn).length cc, .slice As (ss : List Slt).length cl]) ∧ ps.length ≤ 10 ∧ cs.length ≤ 9 ∧ ss.length ≤ 20 ∧ RdP w' w'.heap.size Ap ps ∧ Rd eChn w' w'.heap.size Ac cs ∧ Rd eSlt w' w'.heap.size As ss ∧ Below w.heap.size w w' := by
  have HZ := Lib.hid (heap_alloc_new w (.cells #[.slice none 0 0, .slice none 0 0, .slice none 0 0] 60))
  go_enter Try.func36, Try.ntmps36
  go_wp2_with fail
  refine (callOpen A c bs _ hc hm (hr.alloc _) hby).mono ?_
  rintro e w1 ⟨rfl, hr1, hb1⟩
  have hr1' : Rdr w1 (w.heap.size + 1) 0 := by simpa using hr1
  have HB := Lib.hid (bel_trans (below1 _ _) hb1)
  have HZ1 := Lib.hid (blkc HZ.out hb1)
  have HR := Lib.hid hr1'
  have hs0 : w.heap.size + 1 < w1.heap.size := hr1'.lt
  clear hr1 hr1' hb1 hr HZ
  simp only [World.size_alloc]
  go_wp2_with fail
  refine (callDrawSetup (w.heap.size + 1) 0 5 w1 HR.out (by omega)).mono ?_
  rintro e w2 ⟨v, rfl, ⟨Ap, cp, ps, Ac, cc, cs, As, cl, ss, rfl, hp1, hl9, hl20, o1, o2, o3⟩, hg2⟩
  have HZ2 := Lib.hid (gblk hg2 HZ1.out (by simp))
  have HB2 : Hid (Below w.heap.size w w2) := HB.out.trans ((Below.refl _ _).grown hg2 (by omega) (fun k hk => by cases hk; omega))
  have HF := Lib.hid (setup3 HZ2.out (.slice Ap ps.length cp) (.slice Ac cs.length cc) (.slice As ss.length cl) o1 o2 o3)
  obtain ⟨p0, p1, p2, p3, p4, p5, p6⟩ := cell3 HZ2.out
  obtain ⟨f0, f1, f2, _, _, _, _⟩ := cell3 (set3 (u := .slice Ap ps.length cp) (v := .slice Ac cs.length cc) (t := .slice As ss.length cl) HZ2.out)
  have HBF := Lib.hid (bset3 HB2.out (Nat.le_refl w.heap.size) (.slice Ap ps.length cp) (.slice Ac cs.length cc) (.slice As ss.length cl))
  clear o1 o2 o3 hg2 HR HZ1
  go_wp2_with fail
  exact bodyPost_ret (v := .agg #[.slice Ap ps.length cp, .slice Ac cs.length cc, .slice As ss.length cl]) (by simp [results, Try.results36, go_sem, f0, f1, f2]) rfl ⟨Ap, cp, ps, Ac, cc, cs, As, cl, ss, rfl, hp1, hl9, hl20, HF.out.1.rd, HF.out.2.1.rd, HF.out.2.2.rd, HBF.out⟩
end Go.Proofs.Ytiodpnhokjkjaaa
