/- StepCore of the reference, for every input. -/
import Derived.Test.YtiodpnhokjkjaaaCot
import Derived.Test.YtiodpnhokjkjaaaStp
import Derived.Test.YtiodpnhokjkjaaaRgd
import Derived.Deep.RegionLaw
import Derived.Deep.RegionHeld3
import Derived.Deep.RegionHeldLaw
namespace Go.Proofs.Ytiodpnhokjkjaaa
open Go.RowKit Go.Sort

/-- The copy of a core lies in a box: made behind the copy of its cells, or ahead of it. -/
theorem core_after {w2 w4 : World} {A : Option Addr} {c : Nat} {cs : List Int} {at0 : Int} {st : Bool} (hb : Below w2.heap.size w2 w4) (ho : Own eInt 3 w4 w2.heap.size (.slice A cs.length c) cs) (hc : cs.length ≤ c) :
    ∃ X A' c', Value.pointer (some ⟨w4.heap.size, 0, none⟩) = .pointer (some ⟨X, 0, none⟩) ∧ Hid (RCS w2 X w2.heap.size A' c' ⟨cs, at0, st⟩ (w4.alloc (.cells #[.slice A cs.length c, .int .i64 at0, .bool st] 33)) ∧ cs.length ≤ c' ∧ w2.heap.size ≤ X) :=
  ⟨_, A, c, rfl, ⟨bel_trans hb (below1 _ _), heap_alloc_new _ _, ho.alloc _⟩, hc, hb.size⟩
theorem core_ahead {w2 w4 : World} {A : Option Addr} {c X : Nat} {cs : List Int} {at0 : Int} {st : Bool} {a b d : Value} (hb : Below w2.heap.size w2 w4) (ho : Own eInt 3 w4 w2.heap.size (.slice A cs.length c) cs) (hc : cs.length ≤ c) (hx : w4.heap[X]? = some (.cells #[a, b, d] 33 (0, 0))) (hX : w2.heap.size ≤ X) :
    ∃ X' A' c', Value.pointer (some ⟨X, 0, none⟩) = .pointer (some ⟨X', 0, none⟩) ∧ Hid (RCS w2 X' w2.heap.size A' c' ⟨cs, at0, st⟩ (((w4.setCell ⟨X, 0, none⟩ (.slice A cs.length c)).setCell ⟨X, 1, none⟩ (.int .i64 at0)).setCell ⟨X, 2, none⟩ (.bool st)) ∧ cs.length ≤ c' ∧ w2.heap.size ≤ X') :=
  ⟨X, A, c, rfl, ⟨bset3 hb hX _ _ _, set3 hx, ho.keptOther (gset3 _ _ _) (fun k hk => by cases hk; exact .inr ⟨_, _, _, hx, by decide⟩)⟩, hc, hX⟩
theorem core_box {W w4 : World} {row : Option Nat} {X : Nat} {cs : Array Value} {v : Value} {base : Nat} (hx : W.heap[X]? = some (.cells cs 33 (0, 0))) (hg : W.grownBy w4 row) (hrow : ∀ k, row = some k → base ≤ k ∧ v.ownBlock = some k ∧ ∃ cur, W.heap[k]? = some (.cells cur 3 (0, 0))) : w4.heap[X]? = some (.cells cs 33 (0, 0)) := by
  refine gblk hg hx (fun e => ?_)
  obtain ⟨cur, hcur⟩ := (hrow _ e.symm).2.2
  rw [hx] at hcur
  injection hcur with hcur
  injection hcur with _ ht _
  exact absurd ht (by decide)


def stepRes (cr : Cor) (os : List Ord3) (cells clock : Int) : Cor × Ord3 := if coreB cr os cells && decide (0 ≤ clock) then (corStep cr os clock, corOrd cr os) else (⟨[], 0, false⟩, ⟨0, 0, 0⟩)
/-- What a step leaves: a core of the call's own, and the instruction. -/
def StpOut (w : World) (r : Cor × Ord3) (e : Ending) (w' : World) : Prop :=
  ∃ A c, e = .returned (.tuple #[.agg #[.slice A r.1.cs.length c, .int .i64 r.1.at', .bool r.1.stop], .agg #[.int .i64 r.2.op, .int .i64 r.2.a, .int .i64 r.2.b]]) ∧ Own eInt 3 w' w.heap.size (.slice A r.1.cs.length c) r.1.cs ∧ r.1.cs.length ≤ c ∧ Below w.heap.size w w'
theorem stepRes_bad {cr : Cor} {os : List Ord3} {cells clock : Int} (h : (coreB cr os cells && decide (0 ≤ clock)) = false) : stepRes cr os cells clock = (⟨[], 0, false⟩, ⟨0, 0, 0⟩) := by
  unfold stepRes; rw [h]; rfl
theorem stepRes_good {cr : Cor} {os : List Ord3} {cells clock : Int} (h : coreB cr os cells = true) (hc : 0 ≤ clock) : stepRes cr os cells clock = (corStep cr os clock, corOrd cr os) := by
  unfold stepRes; rw [h, decide_eq_true hc]; rfl
/-- The boxes of a step of the reference: the source, the two results, the copy X, the instruction z. -/
structure SSC (w : World) (E X z : Nat) (A1 : Option Addr) (c1 : Nat) (cs0 : List Int) (at0 : Int) (st0 : Bool) (A2 : Option Addr) (c2 : Nat) (cr : Cor) (o : Ord3) (wx : World) : Prop where
  bel : Below w.heap.size w wx
  src : wx.heap[w.heap.size]? = some (.cells #[.slice A1 cs0.length c1, .int .i64 at0, .bool st0] 33 (0, 0))
  rd : Rd eInt wx E A1 cs0
  box : wx.heap[X]? = some (.cells #[.slice A2 cr.cs.length c2, .int .i64 cr.at', .bool cr.stop] 33 (0, 0))
  own : Own eInt 3 wx E (.slice A2 cr.cs.length c2) cr.cs
  r1 : wx.heap[w.heap.size + 1]? = some (.cells #[.slice none 0 0, .int .i64 0, .bool false] 33 (0, 0))
  r2 : wx.heap[w.heap.size + 1 + 1]? = some (.cells #[.int .i64 0, .int .i64 0, .int .i64 0] 41 (0, 0))
  ord : wx.heap[z]? = some (.cells #[.int .i64 o.op, .int .i64 o.a, .int .i64 o.b] 41 (0, 0))
  hE : w.heap.size + 1 + 1 < E
  hX : E ≤ X
  hz : X < z
section
variable {w wx : World} {E X z : Nat} {A1 A2 : Option Addr} {c1 c2 : Nat} {cs0 : List Int} {at0 : Int} {st0 : Bool} {cr : Cor} {o : Ord3}
theorem SSC.drew (s : SSC w E X z A1 c1 cs0 at0 st0 A2 c2 cr o wx) : SSC w E X z A1 c1 cs0 at0 st0 A2 c2 cr o wx.drew := ⟨s.bel.drew, s.src, s.rd, s.box, s.own, s.r1, s.r2, s.ord, s.hE, s.hX, s.hz⟩
/-- A block at E or behind is written, another than X, z. -/
theorem SSC.setc {g i : Nat} (s : SSC w E X z A1 c1 cs0 at0 st0 (some ⟨g, 0, none⟩) c2 cr o wx) (hi : i < cr.cs.length) (v : Int) : SSC w E X z A1 c1 cs0 at0 st0 (some ⟨g, 0, none⟩) c2 ⟨cr.cs.set i v, cr.at', cr.stop⟩ o (wx.setCell ⟨g, i, none⟩ (.int .i64 v)) := by
  have hne : cr.cs ≠ [] := by intro e; simp [e] at hi
  obtain ⟨hg1, cur, hg2⟩ := s.own.blk hne
  have hE := s.hE
  have ne : ∀ (b : Nat) (cs' : Array Value) (T : TypeId), wx.heap[b]? = some (.cells cs' T (0, 0)) → T ≠ 3 → b ≠ g := fun b cs' T hb hT e => by
    subst e; rw [hg2] at hb; injection hb with hb; injection hb with _ hb; exact hT hb.symm
  refine ⟨s.bel.setCell (p := ⟨g, i, none⟩) (show w.heap.size ≤ g by omega) _, blko s.src _ (ne _ _ _ s.src (by decide)), s.rd.keep (fun p hp => World.cell?_setCell_other _ _ _ _ (fun e => by subst e; exact absurd hp (by show ¬ g < E; omega))), ?_, ?_, blko s.r1 _ (ne _ _ _ s.r1 (by decide)), blko s.r2 _ (ne _ _ _ s.r2 (by decide)), blko s.ord _ (ne _ _ _ s.ord (by decide)), s.hE, s.hX, s.hz⟩
  · have := blko s.box (p := ⟨g, i, none⟩) (.int .i64 v) (ne _ _ _ s.box (by decide))
    simpa using this
  · show Own _ _ _ _ (.slice _ (cr.cs.set i v).length c2) (cr.cs.set i v)
    rw [List.length_set]
    have := s.own.set (i := i) (j := 0) (x := cr.cs[i]) (y := v) (u := .int .i64 v) (List.getElem?_eq_getElem hi) (by decide) rfl
    simpa using this
theorem SSC.at (s : SSC w E X z A1 c1 cs0 at0 st0 A2 c2 cr o wx) (nx : Int) : SSC w E X z A1 c1 cs0 at0 st0 A2 c2 ⟨cr.cs, nx, cr.stop⟩ o (wx.setCell ⟨X, 1, none⟩ (.int .i64 nx)) := by
  have hz := s.hz
  have hE := s.hE
  have hX := s.hX
  exact ⟨s.bel.setCell (p := ⟨X, 1, none⟩) (show w.heap.size ≤ X by omega) _, blko s.src _ (by show w.heap.size ≠ X; omega), s.rd.keep (fun p hp => World.cell?_setCell_other _ _ _ _ (fun e => by subst e; exact absurd hp (by show ¬ X < E; omega))), set3b s.box, s.own.keptOther (gset 1 _) (fun k hk => by cases hk; exact .inr ⟨_, _, _, s.box, by decide⟩), blko s.r1 _ (by show w.heap.size + 1 ≠ X; omega), blko s.r2 _ (by show w.heap.size + 1 + 1 ≠ X; omega), blko s.ord _ (by show z ≠ X; omega), s.hE, s.hX, s.hz⟩
theorem SSC.halt (s : SSC w E X z A1 c1 cs0 at0 st0 A2 c2 cr o wx) : SSC w E X z A1 c1 cs0 at0 st0 A2 c2 ⟨cr.cs, cr.at', true⟩ o (wx.setCell ⟨X, 2, none⟩ (.bool true)) := by
  have hz := s.hz
  have hE := s.hE
  have hX := s.hX
  exact ⟨s.bel.setCell (p := ⟨X, 2, none⟩) (show w.heap.size ≤ X by omega) _, blko s.src _ (by show w.heap.size ≠ X; omega), s.rd.keep (fun p hp => World.cell?_setCell_other _ _ _ _ (fun e => by subst e; exact absurd hp (by show ¬ X < E; omega))), set3c s.box, s.own.keptOther (gset 2 _) (fun k hk => by cases hk; exact .inr ⟨_, _, _, s.box, by decide⟩), blko s.r1 _ (by show w.heap.size + 1 ≠ X; omega), blko s.r2 _ (by show w.heap.size + 1 + 1 ≠ X; omega), blko s.ord _ (by show z ≠ X; omega), s.hE, s.hX, s.hz⟩
/-- Both results are stored. -/
def set6 (w wx : World) (u v t a b d : Value) : World := ((((((wx.setCell ⟨w.heap.size + 1, 0, none⟩ u).setCell ⟨w.heap.size + 1, 1, none⟩ v).setCell ⟨w.heap.size + 1, 2, none⟩ t).setCell ⟨w.heap.size + 1 + 1, 0, none⟩ a).setCell ⟨w.heap.size + 1 + 1, 1, none⟩ b).setCell ⟨w.heap.size + 1 + 1, 2, none⟩ d)
theorem fin6 {A : Option Addr} {c : Nat} {cs : List Int} (hb : Below w.heap.size w wx) (ho : Own eInt 3 wx E (.slice A cs.length c) cs) (hr1 : wx.heap[w.heap.size + 1]? = some (.cells #[.slice none 0 0, .int .i64 0, .bool false] 33 (0, 0))) (hr2 : wx.heap[w.heap.size + 1 + 1]? = some (.cells #[.int .i64 0, .int .i64 0, .int .i64 0] 41 (0, 0))) (hE : w.heap.size + 1 + 1 < E) (u v t a b d : Value) :
    Own eInt 3 (set6 w wx u v t a b d) w.heap.size (.slice A cs.length c) cs ∧ Below w.heap.size w (set6 w wx u v t a b d) ∧
    (set6 w wx u v t a b d).heap[w.heap.size + 1]? = some (.cells #[u, v, t] 33 (0, 0)) ∧ (set6 w wx u v t a b d).heap[w.heap.size + 1 + 1]? = some (.cells #[a, b, d] 41 (0, 0)) := by
  have h1 := set3 (u := u) (v := v) (t := t) hr1
  have h2 := gblk (gset3 (g := w.heap.size + 1) u v t) hr2 (by simp)
  refine ⟨((ho.kept (gset3 _ _ _) (fun k hk => by cases hk; omega)).kept (gset3 _ _ _) (fun k hk => by cases hk; omega)).more (by omega), bset3 (bset3 hb (by omega) _ _ _) (by omega) _ _ _, gblk (gset3 (g := w.heap.size + 1 + 1) a b d) h1 (by simp), set3 h2⟩
def set6b (w wx : World) (u v t a b d : Value) : World := ((((((wx.setCell ⟨w.heap.size + 1 + 1, 0, none⟩ a).setCell ⟨w.heap.size + 1 + 1, 1, none⟩ b).setCell ⟨w.heap.size + 1 + 1, 2, none⟩ d).setCell ⟨w.heap.size + 1, 0, none⟩ u).setCell ⟨w.heap.size + 1, 1, none⟩ v).setCell ⟨w.heap.size + 1, 2, none⟩ t)
theorem fin6b {A : Option Addr} {c : Nat} {cs : List Int} (hb : Below w.heap.size w wx) (ho : Own eInt 3 wx E (.slice A cs.length c) cs) (hr1 : wx.heap[w.heap.size + 1]? = some (.cells #[.slice none 0 0, .int .i64 0, .bool false] 33 (0, 0))) (hr2 : wx.heap[w.heap.size + 1 + 1]? = some (.cells #[.int .i64 0, .int .i64 0, .int .i64 0] 41 (0, 0))) (hE : w.heap.size + 1 + 1 < E) (u v t a b d : Value) :
    Own eInt 3 (set6b w wx u v t a b d) w.heap.size (.slice A cs.length c) cs ∧ Below w.heap.size w (set6b w wx u v t a b d) ∧
    (set6b w wx u v t a b d).heap[w.heap.size + 1]? = some (.cells #[u, v, t] 33 (0, 0)) ∧ (set6b w wx u v t a b d).heap[w.heap.size + 1 + 1]? = some (.cells #[a, b, d] 41 (0, 0)) := by
  have h1 := set3 (u := a) (v := b) (t := d) hr2
  have h2 := gblk (gset3 (g := w.heap.size + 1 + 1) a b d) hr1 (by simp)
  refine ⟨((ho.kept (gset3 _ _ _) (fun k hk => by cases hk; omega)).kept (gset3 _ _ _) (fun k hk => by cases hk; omega)).more (by omega), bset3 (bset3 hb (by omega) _ _ _) (by omega) _ _ _, set3 h2, gblk (gset3 (g := w.heap.size + 1) u v t) h1 (by simp)⟩
end
set_option maxRecDepth 100000 in
set_option maxHeartbeats 12800000 in
theorem callSStepCore (A : Option Addr) (c : Nat) (cr : Cor) (Ao : Option Addr) (co : Nat) (os : List Ord3) (cells clock : Int) (w : World) (B : Nat) (hB : B ≤ w.heap.size) (hm : cr.cs.length ≤ 1048576) (hm2 : os.length ≤ 1048576) (hr : Rd eInt w B A cr.cs) (hr2 : Rd eOrd w B Ao os) :
    Calls Try.prog 43 #[.agg #[.slice A cr.cs.length c, .int .i64 cr.at', .bool cr.stop], .slice Ao os.length co, .int .i64 cells, .int .i64 clock] w (StpOut w (stepRes cr os cells clock)) := by
  have S := Lib.hid (callOwnCore A c cr (((w.alloc (.cells #[.slice A cr.cs.length c, .int .i64 cr.at', .bool cr.stop] 33)).alloc (.cells #[.slice none 0 0, .int .i64 0, .bool false] 33)).alloc (.cells #[.int .i64 0, .int .i64 0, .int .i64 0] 41)) B (by simp; omega) hm (hr.below ((below3 _ _ _ _).mono hB)))
  have HRO := Lib.hid hr2
  have K0 : Hid ((((w.alloc (.cells #[.slice A cr.cs.length c, .int .i64 cr.at', .bool cr.stop] 33)).alloc (.cells #[.slice none 0 0, .int .i64 0, .bool false] 33)).alloc (.cells #[.int .i64 0, .int .i64 0, .int .i64 0] 41)).heap[w.heap.size]? = some (.cells #[.slice A cr.cs.length c, .int .i64 cr.at', .bool cr.stop] 33 (0, 0))) := blkc (alloc_at0 w _ _) (below1 _ _)
  have K1 : Hid ((((w.alloc (.cells #[.slice A cr.cs.length c, .int .i64 cr.at', .bool cr.stop] 33)).alloc (.cells #[.slice none 0 0, .int .i64 0, .bool false] 33)).alloc (.cells #[.int .i64 0, .int .i64 0, .int .i64 0] 41)).heap[w.heap.size + 1]? = some (.cells #[.slice none 0 0, .int .i64 0, .bool false] 33 (0, 0))) := blkc (alloc_at1 w _ _) (below1 _ _)
  have K2 : Hid ((((w.alloc (.cells #[.slice A cr.cs.length c, .int .i64 cr.at', .bool cr.stop] 33)).alloc (.cells #[.slice none 0 0, .int .i64 0, .bool false] 33)).alloc (.cells #[.int .i64 0, .int .i64 0, .int .i64 0] 41)).heap[w.heap.size + 1 + 1]? = some (.cells #[.int .i64 0, .int .i64 0, .int .i64 0] 41 (0, 0))) := by
    have := heap_alloc_new ((w.alloc (.cells #[.slice A cr.cs.length c, .int .i64 cr.at', .bool cr.stop] 33)).alloc (.cells #[.slice none 0 0, .int .i64 0, .bool false] 33)) (.cells #[.int .i64 0, .int .i64 0, .int .i64 0] 41)
    rw [World.size_alloc, World.size_alloc] at this
    exact this
  have HBAD : Hid ((coreB cr os cells && decide (0 ≤ clock)) = false → stepRes cr os cells clock = (⟨[], 0, false⟩, ⟨0, 0, 0⟩)) := stepRes_bad
  have HGOOD : Hid (coreB cr os cells = true → 0 ≤ clock → stepRes cr os cells clock = (corStep cr os clock, corOrd cr os)) := stepRes_good
  obtain ⟨r, hrr⟩ : ∃ r, r = stepRes cr os cells clock := ⟨_, rfl⟩
  rw [← hrr] at HBAD HGOOD ⊢
  have HSO := Lib.hid (show w.heap.size + 1 + 1 + 1 ≤ (((w.alloc (.cells #[.slice A cr.cs.length c, .int .i64 cr.at', .bool cr.stop] 33)).alloc (.cells #[.slice none 0 0, .int .i64 0, .bool false] 33)).alloc (.cells #[.int .i64 0, .int .i64 0, .int .i64 0] 41)).heap.size by simp)
  have HB3 := Lib.hid (below3 w (.cells #[.slice A cr.cs.length c, .int .i64 cr.at', .bool cr.stop] 33) (.cells #[.slice none 0 0, .int .i64 0, .bool false] 33) (.cells #[.int .i64 0, .int .i64 0, .int .i64 0] 41))
  clear hr hr2 hrr
  go_enter Try.func43, Try.ntmps43
  go_wp2_with fail
  refine S.out.mono ?_
  rintro e w1 ⟨A1, c1, rfl, hown1, hc1, hb1⟩
  have KB0 := Lib.hid (blkc K0.out hb1)
  have HW1 := Lib.hid (bel_trans HB3.out hb1)
  have hs1 : w.heap.size + 1 + 1 < w1.heap.size := (cell3 (blkc K2.out hb1)).2.2.2.2.2.2
  have HB1 := Lib.hid (bset3 HW1.out (Nat.le_refl _) (.slice A1 cr.cs.length c1) (.int .i64 cr.at') (.bool cr.stop))
  have KB := Lib.hid (set3 (u := .slice A1 cr.cs.length c1) (v := .int .i64 cr.at') (t := .bool cr.stop) KB0.out)
  have KR := Lib.hid (gblk (gset3 (g := w.heap.size) (.slice A1 cr.cs.length c1) (.int .i64 cr.at') (.bool cr.stop)) (blkc K1.out hb1) (by simp))
  have KO := Lib.hid (gblk (gset3 (g := w.heap.size) (.slice A1 cr.cs.length c1) (.int .i64 cr.at') (.bool cr.stop)) (blkc K2.out hb1) (by simp; omega))
  have HO := Lib.hid ((hown1.more (base' := w.heap.size + 1 + 1 + 1) HSO.out).kept (gset3 (g := w.heap.size) (.slice A1 cr.cs.length c1) (.int .i64 cr.at') (.bool cr.stop)) (fun k hk => by cases hk; omega))
  clear hb1 hown1 S HSO HW1 HB3
  obtain ⟨p0, p1, p2, p3, p4, p5, p6⟩ := cell3 KB0.out
  go_upto_region 2 with (fail)
  obtain ⟨v1, hv1⟩ : ∃ v1, v1 = (((w1.setCell ⟨w.heap.size, 0, none⟩ (.slice A1 cr.cs.length c1)).setCell ⟨w.heap.size, 1, none⟩ (.int .i64 cr.at')).setCell ⟨w.heap.size, 2, none⟩ (.bool cr.stop)) := ⟨_, rfl⟩
  rw [← hv1] at HB1 KB KR KO HO ⊢
  have hs2 : w.heap.size + 1 + 1 < v1.heap.size := by rw [hv1]; simp; omega
  clear hv1 p0 p1 p2 p3 p4 p5 p6 KB0 K0 K1 K2
  have V : Hid (Calls Try.prog 22 #[.agg #[.slice A1 cr.cs.length c1, .int .i64 cr.at', .bool cr.stop], .slice Ao os.length co, .int .i64 cells] v1 fun e w' => e = .returned (.bool (coreB cr os cells)) ∧ Below v1.heap.size v1 w') :=
    callSCoreValid A1 c1 cr Ao co os cells v1 v1.heap.size (Nat.le_refl _) hm hm2 HO.out.rd ((HRO.out.below (HB1.out.mono hB)).mono (Nat.le_trans hB HB1.out.size))
  obtain ⟨b0, b1, b2, _, _, _, _⟩ := cell3 KB.out
  go_wp2_with fail
  refine V.out.mono ?_
  rintro e w2 ⟨rfl, hb2⟩
  have HB2 := Lib.hid (bel_trans HB1.out hb2)
  have KR2 := Lib.hid (blkc KR.out hb2)
  have KO2 := Lib.hid (blkc KO.out hb2)
  have KB2 := Lib.hid (blkc KB.out hb2)
  have HO2 := Lib.hid (HO.out.next hb2)
  have hs3 : w.heap.size + 1 + 1 < w2.heap.size := Nat.lt_of_lt_of_le hs2 hb2.size
  clear hb2 b0 b1 b2 V HB1 KB KR KO HO hs2
  by_cases hbad : coreB cr os cells = false ∨ clock < 0
  · have hrb := HBAD.out (by
      rcases hbad with h | h
      · rw [h]; rfl
      · rw [decide_eq_false (by omega), Bool.and_false])
    subst hrb
    have hway : ∀ (q : Bool), coreB cr os cells = q → (q = false ∨ (q = true ∧ decide (clock < 0) = true)) := fun q hq => by
      rcases hbad with h | h
      · rw [hq] at h; exact .inl h
      · cases q
        · exact .inl rfl
        · exact .inr ⟨rfl, decide_eq_true h⟩
    obtain ⟨q, hq⟩ : ∃ q, q = coreB cr os cells := ⟨_, rfl⟩
    have hway2 := hway q hq.symm
    rw [← hq]
    clear hq hway hbad HBAD HGOOD
    obtain ⟨a0, a1, a2, a3, a4, a5, a6⟩ := cell3 KR2.out
    obtain ⟨d0, d1, d2, d3, d4, d5, d6⟩ := cell3 KO2.out
    have HF := fin6 (A := none) (c := 0) (cs := []) HB2.out Own.none_ KR2.out KO2.out hs3 (.slice none 0 0) (.int .i64 0) (.bool false) (.int .i64 0) (.int .i64 0) (.int .i64 0)
    unfold set6 at HF
    have HFF := Lib.hid HF
    obtain ⟨f0, f1, f2, _, _, _, _⟩ := cell3 HFF.out.2.2.1
    obtain ⟨g0, g1, g2, _, _, _, _⟩ := cell3 HFF.out.2.2.2
    clear HF
    rcases hway2 with rfl | ⟨rfl, hd⟩
    all_goals
      go_wp2
      exact bodyPost_ret (v := .tuple #[.agg #[.slice none 0 0, .int .i64 0, .bool false], .agg #[.int .i64 0, .int .i64 0, .int .i64 0]]) (by simp [results, Try.results43, go_sem, f0, f1, f2, g0, g1, g2]) rfl ⟨none, 0, rfl, HFF.out.1, Nat.le_refl _, HFF.out.2.1⟩
  · have q1 : coreB cr os cells = true := by
      cases q : coreB cr os cells
      · exact absurd (.inl q) hbad
      · rfl
    have hck : 0 ≤ clock := by
      rcases Int.lt_or_le clock 0 with h | h
      · exact absurd (.inr h) hbad
      · exact h
    have hdt : decide (clock < 0) = false := decide_eq_false (by omega)
    have HG := Lib.hid (HGOOD.out q1 hck)
    have HOK := Lib.hid q1
    rw [q1]
    clear HBAD HGOOD hbad q1
    obtain ⟨x0, x1, x2, _, _, _, x6⟩ := cell3 KB2.out
    go_upto_region 4 with (fail)
    obtain ⟨cs, at0, st⟩ := cr
    simp only at *
    obtain ⟨Z, hZ⟩ : ∃ Z, Z = Obj.cells #[.slice none 0 0, .int .i64 0, .bool false] 33 := ⟨_, rfl⟩
    have Ba : Hid (Below w2.heap.size w2 (w2.alloc (.cells #[] 3)).drew) := (below1 _ _).drew
    have Bb : Hid (Below w2.heap.size w2 ((w2.alloc (.cells #[] 3)).alloc (.cells #[.slice none 0 0, .int .i64 0, .bool false] 33)).drew) := (below2 _ _ _).drew
    have Bc : Hid (Below w2.heap.size w2 ((w2.alloc (.cells #[.slice none 0 0, .int .i64 0, .bool false] 33)).alloc (.cells #[] 3)).drew) := (below2 _ _ _).drew
    have Xb : Hid (((w2.alloc (.cells #[] 3)).alloc (.cells #[.slice none 0 0, .int .i64 0, .bool false] 33)).drew.heap[w2.heap.size + 1]? = some (.cells #[.slice none 0 0, .int .i64 0, .bool false] 33 (0, 0))) := alloc_at1 _ _ _
    have Xc : Hid (((w2.alloc (.cells #[.slice none 0 0, .int .i64 0, .bool false] 33)).alloc (.cells #[] 3)).drew.heap[w2.heap.size]? = some (.cells #[.slice none 0 0, .int .i64 0, .bool false] 33 (0, 0))) := alloc_at0 _ _ _
    have RDs : Hid (∀ W, Below w2.heap.size w2 W → Rd eInt W W.heap.size A1 cs) := fun W hW => (HO2.out.rd.below hW).mono hW.size
    have CLs : Hid (∀ W, Below w2.heap.size w2 W → W.heap[w.heap.size]? = some (.cells #[.slice A1 cs.length c1, .int .i64 at0, .bool st] 33 (0, 0))) := fun W hW => blkc KB2.out hW
    have hroom : Hid (([] : List Int).length + cs.length ≤ 1073741824) := by show 0 + _ ≤ _; omega
    obtain ⟨xa0, xa1, xa2, _, _, _, _⟩ := cell3 (CLs.out _ Ba.out)
    obtain ⟨xb0, xb1, xb2, _, _, _, _⟩ := cell3 (CLs.out _ Bb.out)
    obtain ⟨xc0, xc1, xc2, _, _, _, _⟩ := cell3 (CLs.out _ Bc.out)
    obtain ⟨xd0, xd1, xd2, _, _, _, _⟩ := cell3 (CLs.out _ (below1 w2 (.cells #[.slice none 0 0, .int .i64 0, .bool false] 33)).drew)
    clear hZ
    go_cut [10] (fun s10 wx => ∃ X A' c', s10 = .pointer (some ⟨X, 0, none⟩) ∧ Hid (RCS w2 X w2.heap.size A' c' ⟨cs, at0, st⟩ wx ∧ cs.length ≤ c' ∧ w2.heap.size ≤ X))
    case first =>
      go_region_held3 (fun w' => w'.cell? ⟨w.heap.size, 0, none⟩ = some (.slice A1 cs.length c1) ∧ w'.cell? ⟨w.heap.size, 1, none⟩ = some (.int .i64 at0) ∧ w'.cell? ⟨w.heap.size, 2, none⟩ = some (.bool st)) (first | exact ⟨x0, x1, x2⟩ | exact ⟨xa0, xa1, xa2⟩ | exact ⟨xb0, xb1, xb2⟩ | exact ⟨xc0, xc1, xc2⟩ | exact ⟨xd0, xd1, xd2⟩ | (refine ⟨?_, ?_, ?_⟩ <;> assumption) | (refine ⟨?_, ?_, ?_⟩ <;> (rw [World.cell?_setCell_other _ _ _ _ (fun e => by injection e with e1 _ _; omega), World.cell?_setCell_other _ _ _ _ (fun e => by injection e with e1 _ _; omega), World.cell?_setCell_other _ _ _ _ (fun e => by injection e with e1 _ _; omega)]; assumption)) | go_keep)
        (first
          | (refine step_app (w := (w2.alloc (.cells #[] 3)).drew) (n := cs.length) (c := c1) eiInt rfl (.tmp 25) (.tmp 27) rfl w2.heap.size (xs := []) (Own.none_ (A := some ⟨w2.heap.size, 0, none⟩)) (RDs.out _ Ba.out) rfl (by simp [Act.eval]) (by simp [Act.eval]) hroom.out Ba.out.size ?_; intro v' w4 row hown4' hg4 hrow4; have hown4 : Own eInt 3 w4 w2.heap.size v' cs := hown4'; obtain ⟨A4, c4, hv4, hc4, _⟩ := hown4.form; subst hv4; have hb4 := Ba.out.trans (below_of_row hg4 (fun k hk => (hrow4 k hk).1) Ba.out.size); obtain ⟨n0, n1, n2, _, _, _, _⟩ := cell3 (CLs.out _ hb4); obtain ⟨na0, na1, na2, _, _, _, _⟩ := cell3 (CLs.out _ (bel_trans hb4 (below1 w4 (.cells #[.slice none 0 0, .int .i64 0, .bool false] 33)))); obtain ⟨nb0, nb1, nb2, _, _, _, _⟩ := cell3 (CLs.out _ (bel_trans hb4 (below1 w4 (.cells #[.slice A4 cs.length c4, .int .i64 at0, .bool st] 33)))); have hx4 := True.intro)
          | (refine step_app (w := ((w2.alloc (.cells #[] 3)).alloc (.cells #[.slice none 0 0, .int .i64 0, .bool false] 33)).drew) (n := cs.length) (c := c1) eiInt rfl (.tmp 25) (.tmp 27) rfl w2.heap.size (xs := []) (Own.none_ (A := some ⟨w2.heap.size, 0, none⟩)) (RDs.out _ Bb.out) rfl (by simp [Act.eval]) (by simp [Act.eval]) hroom.out Bb.out.size ?_; intro v' w4 row hown4' hg4 hrow4; have hown4 : Own eInt 3 w4 w2.heap.size v' cs := hown4'; obtain ⟨A4, c4, hv4, hc4, _⟩ := hown4.form; subst hv4; have hb4 := Bb.out.trans (below_of_row hg4 (fun k hk => (hrow4 k hk).1) Bb.out.size); obtain ⟨n0, n1, n2, _, _, _, _⟩ := cell3 (CLs.out _ hb4); have hx4 := core_box Xb.out hg4 hrow4; obtain ⟨m0, m1, m2, m3, m4, m5, m6⟩ := cell3 hx4)
          | (refine step_app (w := ((w2.alloc (.cells #[.slice none 0 0, .int .i64 0, .bool false] 33)).alloc (.cells #[] 3)).drew) (n := cs.length) (c := c1) eiInt rfl (.tmp 25) (.tmp 27) rfl w2.heap.size (xs := []) (Own.none_ (A := some ⟨w2.heap.size + 1, 0, none⟩)) (RDs.out _ Bc.out) rfl (by simp [Act.eval]) (by simp [Act.eval]) hroom.out Bc.out.size ?_; intro v' w4 row hown4' hg4 hrow4; have hown4 : Own eInt 3 w4 w2.heap.size v' cs := hown4'; obtain ⟨A4, c4, hv4, hc4, _⟩ := hown4.form; subst hv4; have hb4 := Bc.out.trans (below_of_row hg4 (fun k hk => (hrow4 k hk).1) Bc.out.size); obtain ⟨n0, n1, n2, _, _, _, _⟩ := cell3 (CLs.out _ hb4); have hx4 := core_box Xc.out hg4 hrow4; obtain ⟨m0, m1, m2, m3, m4, m5, m6⟩ := cell3 hx4))
      all_goals (go_wp2_with fail; go_meet)
      trace_state
      all_goals first | exact core_after hb4 hown4 hc4 | exact core_ahead hb4 hown4 hc4 hx4 (Nat.le_refl _) | exact core_ahead hb4 hown4 hc4 hx4 (Nat.le_succ _)
    case rest =>
      obtain ⟨X, A2, c2, rfl, HC⟩ := hcut
      have hXs := HC.out.2.2
      have hcc2 := HC.out.2.1
      have RC := Lib.hid HC.out.1
      clear HC x0 x1 x2 x6 xa0 xa1 xa2 xb0 xb1 xb2 xc0 xc1 xc2 xd0 xd1 xd2 Ba Bb Bc Xb Xc RDs CLs hroom
      have HBc := Lib.hid (bel_trans HB2.out RC.out.bel)
      have KBc := Lib.hid (blkc KB2.out RC.out.bel)
      have KRc := Lib.hid (blkc KR2.out RC.out.bel)
      have KOc := Lib.hid (blkc KO2.out RC.out.bel)
      have RDc := Lib.hid (HO2.out.rd.below RC.out.bel)
      have hXc : X < wc.heap.size := (cell3 RC.out.box).2.2.2.2.2.2
      obtain ⟨hp, hl, ⟨ha0, ha1⟩, hv⟩ := coreB_iff.1 HOK.out
      obtain ⟨⟨hn0, hn1⟩, ⟨hc0, hc1'⟩, _⟩ := progB_iff.1 hp
      obtain ⟨k, hk⟩ := Int.eq_ofNat_of_zero_le ha0
      simp only at hk hl ha0 ha1 hv
      subst hk
      have hkl : k < os.length := by omega
      have hob := (ordAt_ok hp ha0 ha1).1
      obtain ⟨x0, x1, x2, x3, x4, x5, x6⟩ := cell3 KBc.out
      obtain ⟨y0, y1, y2, y3, y4, y5, y6⟩ := cell3 RC.out.box
      clear KB2 KR2 KO2 HO2 HB2
      cases st
      · have HCO : Hid (corOrd ⟨cs, (k : Int), false⟩ os = ordAt os k) := rfl
        have HCS : Hid (corStep ⟨cs, (k : Int), false⟩ os clock = corDo ⟨cs, (k : Int), false⟩ os clock (ordAt os k)) := rfl
        have HOA := Lib.hid (ordAt_get hkl)
        obtain ⟨b, off, rfl, hbB, o1, o2, o3⟩ := (HRO.out.below (HBc.out.mono hB)).at3 rfl hkl rfl
        rw [← HOA.out] at o1 o2 o3
        obtain ⟨o, ho⟩ : ∃ o, o = ordAt os (k : Int) := ⟨_, rfl⟩
        rw [← ho] at HCO HCS hob o1 o2 o3
        clear ho HOA
        obtain ⟨op, a, b'⟩ := o
        simp only at o1 o2 o3
        have hbw : b < wc.heap.size := Nat.lt_of_lt_of_le hbB (Nat.le_trans hB HBc.out.size)
        clear hp
        go_upto_region 9 with (fail)
        obtain ⟨nx, hnx⟩ : ∃ nx, nx = ((k : Int) + 1) % (os.length : Int) := ⟨_, rfl⟩
        rw [← hnx]
        have HNX := Lib.hid hnx
        clear hnx
        have hE := hs3
        have S3 : Hid (SSC w w2.heap.size X wc.heap.size A1 c1 cs (k : Int) false A2 c2 ⟨cs, nx, false⟩ ⟨op, a, b'⟩ ((wc.setCell ⟨X, 1, none⟩ (.int .i64 nx)).alloc (.cells #[.int .i64 op, .int .i64 a, .int .i64 b'] 41))) :=
          ⟨(HBc.out.setCell (p := ⟨X, 1, none⟩) (show w.heap.size ≤ X by omega) _).alloc (by simp; omega) _, blkc (blko KBc.out (p := ⟨X, 1, none⟩) _ (by show w.heap.size ≠ X; omega)) (below1 _ _), (RDc.out.keep (fun p hp => World.cell?_setCell_other _ _ _ _ (fun e => by subst e; exact absurd hp (by show ¬ X < w2.heap.size; omega)))).below ((below1 _ _).mono (by simp; omega)), blkc (set3b RC.out.box) (below1 _ _), (RC.out.own.keptOther (gset (g := X) 1 _) (fun k hk => by cases hk; exact .inr ⟨_, _, _, RC.out.box, by decide⟩)).alloc _, blkc (blko KRc.out (p := ⟨X, 1, none⟩) _ (by show w.heap.size + 1 ≠ X; omega)) (below1 _ _), blkc (blko KOc.out (p := ⟨X, 1, none⟩) _ (by show w.heap.size + 1 + 1 ≠ X; omega)) (below1 _ _), (by have := heap_alloc_new (wc.setCell ⟨X, 1, none⟩ (.int .i64 nx)) (.cells #[.int .i64 op, .int .i64 a, .int .i64 b'] 41); simpa using this), hE, hXs, hXc⟩
        obtain ⟨u3, hu3⟩ : ∃ u3, u3 = ((wc.setCell ⟨X, 1, none⟩ (.int .i64 nx)).alloc (.cells #[.int .i64 op, .int .i64 a, .int .i64 b'] 41)) := ⟨_, rfl⟩
        obtain ⟨z, hz⟩ : ∃ z, z = wc.heap.size := ⟨_, rfl⟩
        rw [← hu3, ← hz] at S3
        rw [← hu3, ← hz]
        clear hu3 hz x0 x1 x2 x3 x4 x5 x6 y0 y1 y2 y3 y4 y5 y6 o1 o2 o3 RC HBc KBc KRc KOc RDc
        obtain ⟨x0, x1, x2, x3, x4, x5, x6⟩ := cell3 S3.out.src
        obtain ⟨y0, y1, y2, y3, y4, y5, y6⟩ := cell3 S3.out.box
        obtain ⟨z0, z1, z2, z3, z4, z5, z6⟩ := cell3 S3.out.ord
        have hcl : 0 < cs.length := by omega
        have hcne : cs ≠ [] := by intro e; simp [e] at hcl
        obtain ⟨A', c', hA, _, hgg⟩ := S3.out.own.form
        injection hA with hA1 hA2 hA3
        subst hA1 hA3
        obtain ⟨g, rfl, hg1, hg2⟩ := hgg hcne
        clear hA2 hgg
        have hop : op = 1 ∨ op = 2 ∨ op = 3 ∨ op = 7 ∨ op = 4 ∨ op = 8 ∨ op = 5 ∨ op = 6 ∨ op = 0 := by
          by_cases h : op ≠ 1 ∧ op ≠ 2 ∧ op ≠ 3 ∧ op ≠ 4 ∧ op ≠ 5 ∧ op ≠ 6 ∧ op ≠ 7 ∧ op ≠ 0 ∧ op ≠ 8
          · rw [ordB_else _ _ _ _ h] at hob; cases hob
          · omega
        have HOB := Lib.hid hob
        have HFR := Lib.hid (fun i => S3.out.own.frozen (o := i) hcne)
        have HCE := Lib.hid (fun i (hi : i < cs.length) => S3.out.own.rd.at1 rfl hi rfl)
        have HLL := Lib.hid hl
        clear hob hcne hl
        rcases hop with rfl | rfl | rfl | rfl | rfl | rfl | rfl | rfl | rfl
        · have hl := HLL.out
          have habi := ordB_a HOB.out (.inl rfl)
          simp only at habi
          obtain ⟨i, rfl⟩ := Int.eq_ofNat_of_zero_le habi.1
          have hic : i < cs.length := by omega
          have hi1 : (i : Int) < (cs.length : Int) := by omega
          have hi0 : (0 : Int) ≤ (i : Int) := by omega
          clear hl
          have hfr := HFR.out i
          obtain ⟨_, _, hA, _, hcti⟩ := HCE.out i hic
          simp only [Option.some.injEq, Addr.mk.injEq, and_true] at hA
          obtain ⟨rfl, rfl⟩ := hA
          rw [Nat.zero_add] at hcti
          have HCD : Hid (corDo ⟨cs, (k : Int), false⟩ os clock ⟨1, (i : Int), b'⟩ = ⟨cs.set i b', nx, false⟩) := by
            show corDo _ _ _ _ = _
            have e : corDo ⟨cs, (k : Int), false⟩ os clock ⟨1, (i : Int), b'⟩ = ⟨cs.set i b', ((k : Int) + 1) % (os.length : Int), false⟩ := rfl
            rw [e, HNX.out]
          go_upto_region 24 with (fail)
          have S4a : Hid (SSC w w2.heap.size X z A1 c1 cs (k : Int) false (some ⟨g, 0, none⟩) c2 ⟨cs.set i b', nx, false⟩ ⟨1, (i : Int), b'⟩ (u3.setCell ⟨g, i, none⟩ (.int .i64 b'))) := (S3.out.setc hic b')
          obtain ⟨u4, hu4⟩ : ∃ u4, u4 = u3.setCell ⟨g, i, none⟩ (.int .i64 b') := ⟨_, rfl⟩
          rw [← hu4] at S4a ⊢
          have S4 := S4a
          clear hu4
          have hbx4 : u4.heap[X]? = some (.cells #[.slice (some ⟨g, 0, none⟩) cs.length c2, .int .i64 nx, .bool false] 33 (0, 0)) := (by have h := S4.out.box; simpa using h)
          have HBX4 := Lib.hid hbx4
          clear hbx4
          obtain ⟨m0, m1, m2, m3, m4, m5, m6⟩ := cell3 HBX4.out
          obtain ⟨n0, n1, n2, n3, n4, n5, n6⟩ := cell3 S4.out.ord
          obtain ⟨p0, p1, p2, p3, p4, p5, p6⟩ := cell3 S4.out.r1
          obtain ⟨q0, q1, q2, q3, q4, q5, q6⟩ := cell3 S4.out.r2
          have hz4 := S4.out.hz
          have hX4 := S4.out.hX
          have HF := fin6 S4.out.bel S4.out.own S4.out.r1 S4.out.r2 hs3 (.slice (some ⟨g, 0, none⟩) cs.length c2) (.int .i64 nx) (.bool false) (.int .i64 1) (.int .i64 (i : Int)) (.int .i64 b')
          have HFb := fin6b S4.out.bel S4.out.own S4.out.r1 S4.out.r2 hs3 (.slice (some ⟨g, 0, none⟩) cs.length c2) (.int .i64 nx) (.bool false) (.int .i64 1) (.int .i64 (i : Int)) (.int .i64 b')
          have G1 := gset3 (w := u4) (g := w.heap.size + 1) (.slice (some ⟨g, 0, none⟩) cs.length c2) (.int .i64 nx) (.bool false)
          have G2 := gset3 (w := u4) (g := w.heap.size + 1 + 1) (.int .i64 1) (.int .i64 (i : Int)) (.int .i64 b')
          obtain ⟨i0, i1, i2, _, _, _, _⟩ := cell3 (gblk G1 S4.out.ord (by simp; omega))
          obtain ⟨_, _, _, i3, i4, i5, _⟩ := cell3 (gblk G1 S4.out.r2 (by simp))
          obtain ⟨l0, l1, l2, _, _, _, _⟩ := cell3 (gblk G2 HBX4.out (by simp; omega))
          obtain ⟨_, _, _, l3, l4, l5, _⟩ := cell3 (gblk G2 S4.out.r1 (by simp))
          unfold set6 at HF
          unfold set6b at HFb
          have HFF := Lib.hid HF
          have HFG := Lib.hid HFb
          obtain ⟨f0, f1, f2, _, _, _, _⟩ := cell3 HFF.out.2.2.1
          obtain ⟨g0, g1, g2, _, _, _, _⟩ := cell3 HFF.out.2.2.2
          obtain ⟨f0', f1', f2', _, _, _, _⟩ := cell3 HFG.out.2.2.1
          obtain ⟨g0', g1', g2', _, _, _, _⟩ := cell3 HFG.out.2.2.2
          clear HF HFb G1 G2
          go_region
          all_goals (try go_wp2)
          all_goals first
            | exact bodyPost_ret (v := .tuple #[.agg #[.slice (some ⟨g, 0, none⟩) cs.length c2, .int .i64 nx, .bool false], .agg #[.int .i64 1, .int .i64 (i : Int), .int .i64 b']]) (by simp [results, Try.results43, go_sem, f0, f1, f2, g0, g1, g2]) rfl (by rw [HG.out, HCO.out, HCS.out, HCD.out]; exact ⟨some ⟨g, 0, none⟩, c2, (by first | rfl | simp), HFF.out.1.drew, by simpa using hcc2, below_drew HFF.out.2.1⟩)
            | exact bodyPost_ret (v := .tuple #[.agg #[.slice (some ⟨g, 0, none⟩) cs.length c2, .int .i64 nx, .bool false], .agg #[.int .i64 1, .int .i64 (i : Int), .int .i64 b']]) (by simp [results, Try.results43, go_sem, f0', f1', f2', g0', g1', g2']) rfl (by rw [HG.out, HCO.out, HCS.out, HCD.out]; exact ⟨some ⟨g, 0, none⟩, c2, (by first | rfl | simp), HFG.out.1.drew, by simpa using hcc2, below_drew HFG.out.2.1⟩)
        · have hl := HLL.out
          have habi := ordB_a HOB.out (.inr (.inl rfl))
          simp only at habi
          obtain ⟨i, rfl⟩ := Int.eq_ofNat_of_zero_le habi.1
          have hic : i < cs.length := by omega
          have hi1 : (i : Int) < (cs.length : Int) := by omega
          have hi0 : (0 : Int) ≤ (i : Int) := by omega
          have habj := ordB_b HOB.out (.inl rfl)
          simp only at habj
          obtain ⟨j, rfl⟩ := Int.eq_ofNat_of_zero_le habj.1
          have hjc : j < cs.length := by omega
          have hj1 : (j : Int) < (cs.length : Int) := by omega
          have hj0 : (0 : Int) ≤ (j : Int) := by omega
          clear hl
          have hfr := HFR.out i
          obtain ⟨_, _, hA, _, hcti⟩ := HCE.out i hic
          simp only [Option.some.injEq, Addr.mk.injEq, and_true] at hA
          obtain ⟨rfl, rfl⟩ := hA
          rw [Nat.zero_add] at hcti
          obtain ⟨gs, ofs, rfl, _, hcei⟩ := S3.out.rd.at1 rfl hic rfl
          have hvi := inB_iff.1 (hv _ (List.getElem_mem hic))
          have HGci := Lib.hid (celAt_get hic)
          obtain ⟨ci, hci⟩ : ∃ ci, ci = cs[i] := ⟨_, rfl⟩
          rw [← hci] at hcei HGci hvi
          clear hci
          obtain ⟨_, _, hA, _, hcej⟩ := S3.out.rd.at1 rfl hjc rfl
          simp only [Option.some.injEq, Addr.mk.injEq, and_true] at hA
          obtain ⟨rfl, rfl⟩ := hA
          have hvj := inB_iff.1 (hv _ (List.getElem_mem hjc))
          have HGcj := Lib.hid (celAt_get hjc)
          obtain ⟨cj, hcj⟩ : ∃ cj, cj = cs[j] := ⟨_, rfl⟩
          rw [← hcj] at hcej HGcj hvj
          clear hcj
          obtain ⟨s, hs⟩ : ∃ s, s = (ci + cj) % 256 := ⟨_, rfl⟩
          have hw1 : IntKind.i64.wrap (ci + cj) = ci + cj := IntWalk.i64_in _ (by omega)
          have hw2 : (ci + cj).tmod 256 = s := by rw [hs]; exact Int.tmod_eq_emod_of_nonneg (by omega)
          have hw3 : IntKind.i64.wrap s = s := IntWalk.i64_in _ (by omega)
          have HCD : Hid (corDo ⟨cs, (k : Int), false⟩ os clock ⟨2, (i : Int), (j : Int)⟩ = ⟨cs.set i s, nx, false⟩) := by
            show corDo _ _ _ _ = _
            have e : corDo ⟨cs, (k : Int), false⟩ os clock ⟨2, (i : Int), (j : Int)⟩ = ⟨cs.set i ((celAt cs i + celAt cs j) % 256), ((k : Int) + 1) % (os.length : Int), false⟩ := rfl
            rw [e, HGci.out, HGcj.out, ← hs, HNX.out]
          clear hs
          go_upto_region 13 with (fail)
          obtain ⟨U, hU⟩ : ∃ U, U = u3.drew := ⟨_, rfl⟩
          obtain ⟨FW, hFW⟩ : ∃ FW, FW = (u3.setCell ⟨g, i, none⟩ (.int .i64 s)).drew := ⟨_, rfl⟩
          refine wp_region_each (N := 124) (kk := 19) (J := fun _ s W => s = false → W = U) (V := VAt [fun _ v => v = (.pointer (some ⟨X, 0, none⟩)), fun _ v => v = (.slice (some ⟨g, 0, none⟩) cs.length c2), fun _ v => v = (.pointer (some ⟨z, 1, none⟩)), fun _ v => v = (.int .i64 (i : Int)), fun _ v => v = (.pointer (some ⟨w.heap.size, 0, none⟩)), fun _ v => v = (.slice (some ⟨gs, ofs, none⟩) cs.length c1), fun _ v => v = (.pointer (some ⟨z, 1, none⟩)), fun _ v => v = (.int .i64 (i : Int)), fun _ v => v = (.pointer (some ⟨gs, ofs + i, none⟩)), fun _ v => v = (.int .i64 ci), fun _ v => v = (.pointer (some ⟨w.heap.size, 0, none⟩)), fun _ v => v = (.slice (some ⟨gs, ofs, none⟩) cs.length c1), fun _ v => v = (.pointer (some ⟨z, 2, none⟩)), fun _ v => v = (.int .i64 (j : Int)), fun _ v => v = (.pointer (some ⟨gs, ofs + j, none⟩)), fun _ v => v = (.int .i64 cj), fun _ v => v = (.int .i64 (ci + cj)), fun _ v => v = (.int .i64 s), fun _ v => v = (.pointer (some ⟨g, i, none⟩)), fun W _ => W = FW]) (Ext := fun w w' => w = FW → w' = FW) (by kernel_rfl) (by kernel_rfl) (by rfl) ?_ (fun _ => hU.symm) ?_ ?_
          · have hs : ∀ (Vs : List (World → Value → Prop)), AllP (fun p => ∀ w w' u, (w = FW → w' = FW) → p w u → p w' u) Vs → ∀ j w w' u, (w = FW → w' = FW) → VAt Vs j w u → VAt Vs j w' u := fun Vs hV j w w' u e h => by
              unfold VAt at *
              rw [List.getD_eq_getElem?_getD] at *
              cases hj : Vs[j]? with
              | none => trivial
              | some p => rw [hj] at h; exact AllP.mem hV p (List.mem_of_getElem? hj) w w' u e h
            exact hs _ ⟨(fun _ _ _ _ h => h), (fun _ _ _ _ h => h), (fun _ _ _ _ h => h), (fun _ _ _ _ h => h), (fun _ _ _ _ h => h), (fun _ _ _ _ h => h), (fun _ _ _ _ h => h), (fun _ _ _ _ h => h), (fun _ _ _ _ h => h), (fun _ _ _ _ h => h), (fun _ _ _ _ h => h), (fun _ _ _ _ h => h), (fun _ _ _ _ h => h), (fun _ _ _ _ h => h), (fun _ _ _ _ h => h), (fun _ _ _ _ h => h), (fun _ _ _ _ h => h), (fun _ _ _ _ h => h), (fun _ _ _ _ h => h), (fun _ _ _ e h => e h), trivial⟩
          · refine ⟨?_, ?_, ?_, ?_, ?_, ?_, ?_, ?_, ?_, ?_, ?_, ?_, ?_, ?_, ?_, ?_, ?_, ?_, ?_, ?_, trivial⟩
            all_goals intro nn sf aa WW hJ hks hkd hold hdep K hK
            · have e10 := ev (show aa.eval (.tmp 10) = .pointer (some ⟨X, 0, none⟩) from hold 10 (by kernel_rfl))
              have hW := hJ (hkd (by kernel_rfl))
              subst hW
              rw [hU]
              unfold Oper.wp execOp
              go_simp
              rw [← hU]
              exact hK (.pointer (some ⟨X, 0, none⟩)) _ (fun _ => rfl) rfl (fun h => h)
            · have e63 := ev (show aa.eval (.tmp 63) = .pointer (some ⟨X, 0, none⟩) from hdep 0 (by kernel_rfl) _ rfl)
              have hW := hJ (hkd (by kernel_rfl))
              subst hW
              rw [hU]
              unfold Oper.wp execOp
              go_simp
              rw [← hU]
              exact hK (.slice (some ⟨g, 0, none⟩) cs.length c2) _ (fun _ => rfl) rfl (fun h => h)
            · have e11 := ev (show aa.eval (.tmp 11) = .pointer (some ⟨z, 0, none⟩) from hold 11 (by kernel_rfl))
              have hW := hJ (hkd (by kernel_rfl))
              subst hW
              rw [hU]
              unfold Oper.wp execOp
              go_simp
              rw [← hU]
              exact hK (.pointer (some ⟨z, 1, none⟩)) _ (fun _ => rfl) rfl (fun h => h)
            · have e65 := ev (show aa.eval (.tmp 65) = .pointer (some ⟨z, 1, none⟩) from hdep 2 (by kernel_rfl) _ rfl)
              have hW := hJ (hkd (by kernel_rfl))
              subst hW
              rw [hU]
              unfold Oper.wp execOp
              go_simp
              rw [← hU]
              exact hK (.int .i64 (i : Int)) _ (fun _ => rfl) rfl (fun h => h)
            · have e4 := ev (show aa.eval (.tmp 4) = .pointer (some ⟨w.heap.size, 0, none⟩) from hold 4 (by kernel_rfl))
              have hW := hJ (hkd (by kernel_rfl))
              subst hW
              rw [hU]
              unfold Oper.wp execOp
              go_simp
              rw [← hU]
              exact hK (.pointer (some ⟨w.heap.size, 0, none⟩)) _ (fun _ => rfl) rfl (fun h => h)
            · have e67 := ev (show aa.eval (.tmp 67) = .pointer (some ⟨w.heap.size, 0, none⟩) from hdep 4 (by kernel_rfl) _ rfl)
              have hW := hJ (hkd (by kernel_rfl))
              subst hW
              rw [hU]
              unfold Oper.wp execOp
              go_simp
              rw [← hU]
              exact hK (.slice (some ⟨gs, ofs, none⟩) cs.length c1) _ (fun _ => rfl) rfl (fun h => h)
            · have e11 := ev (show aa.eval (.tmp 11) = .pointer (some ⟨z, 0, none⟩) from hold 11 (by kernel_rfl))
              have hW := hJ (hkd (by kernel_rfl))
              subst hW
              rw [hU]
              unfold Oper.wp execOp
              go_simp
              rw [← hU]
              exact hK (.pointer (some ⟨z, 1, none⟩)) _ (fun _ => rfl) rfl (fun h => h)
            · have e69 := ev (show aa.eval (.tmp 69) = .pointer (some ⟨z, 1, none⟩) from hdep 6 (by kernel_rfl) _ rfl)
              have hW := hJ (hkd (by kernel_rfl))
              subst hW
              rw [hU]
              unfold Oper.wp execOp
              go_simp
              rw [← hU]
              exact hK (.int .i64 (i : Int)) _ (fun _ => rfl) rfl (fun h => h)
            · have e68 := ev (show aa.eval (.tmp 68) = .slice (some ⟨gs, ofs, none⟩) cs.length c1 from hdep 5 (by kernel_rfl) _ rfl)
              have e70 := ev (show aa.eval (.tmp 70) = .int .i64 (i : Int) from hdep 7 (by kernel_rfl) _ rfl)
              have hW := hJ (hkd (by kernel_rfl))
              subst hW
              rw [hU]
              unfold Oper.wp execOp
              go_simp
              rw [← hU]
              exact hK (.pointer (some ⟨gs, ofs + i, none⟩)) _ (fun _ => rfl) rfl (fun h => h)
            · have e71 := ev (show aa.eval (.tmp 71) = .pointer (some ⟨gs, ofs + i, none⟩) from hdep 8 (by kernel_rfl) _ rfl)
              have hW := hJ (hkd (by kernel_rfl))
              subst hW
              rw [hU]
              unfold Oper.wp execOp
              go_simp
              rw [← hU]
              exact hK (.int .i64 ci) _ (fun _ => rfl) rfl (fun h => h)
            · have e4 := ev (show aa.eval (.tmp 4) = .pointer (some ⟨w.heap.size, 0, none⟩) from hold 4 (by kernel_rfl))
              have hW := hJ (hkd (by kernel_rfl))
              subst hW
              rw [hU]
              unfold Oper.wp execOp
              go_simp
              rw [← hU]
              exact hK (.pointer (some ⟨w.heap.size, 0, none⟩)) _ (fun _ => rfl) rfl (fun h => h)
            · have e73 := ev (show aa.eval (.tmp 73) = .pointer (some ⟨w.heap.size, 0, none⟩) from hdep 10 (by kernel_rfl) _ rfl)
              have hW := hJ (hkd (by kernel_rfl))
              subst hW
              rw [hU]
              unfold Oper.wp execOp
              go_simp
              rw [← hU]
              exact hK (.slice (some ⟨gs, ofs, none⟩) cs.length c1) _ (fun _ => rfl) rfl (fun h => h)
            · have e11 := ev (show aa.eval (.tmp 11) = .pointer (some ⟨z, 0, none⟩) from hold 11 (by kernel_rfl))
              have hW := hJ (hkd (by kernel_rfl))
              subst hW
              rw [hU]
              unfold Oper.wp execOp
              go_simp
              rw [← hU]
              exact hK (.pointer (some ⟨z, 2, none⟩)) _ (fun _ => rfl) rfl (fun h => h)
            · have e75 := ev (show aa.eval (.tmp 75) = .pointer (some ⟨z, 2, none⟩) from hdep 12 (by kernel_rfl) _ rfl)
              have hW := hJ (hkd (by kernel_rfl))
              subst hW
              rw [hU]
              unfold Oper.wp execOp
              go_simp
              rw [← hU]
              exact hK (.int .i64 (j : Int)) _ (fun _ => rfl) rfl (fun h => h)
            · have e74 := ev (show aa.eval (.tmp 74) = .slice (some ⟨gs, ofs, none⟩) cs.length c1 from hdep 11 (by kernel_rfl) _ rfl)
              have e76 := ev (show aa.eval (.tmp 76) = .int .i64 (j : Int) from hdep 13 (by kernel_rfl) _ rfl)
              have hW := hJ (hkd (by kernel_rfl))
              subst hW
              rw [hU]
              unfold Oper.wp execOp
              go_simp
              rw [← hU]
              exact hK (.pointer (some ⟨gs, ofs + j, none⟩)) _ (fun _ => rfl) rfl (fun h => h)
            · have e77 := ev (show aa.eval (.tmp 77) = .pointer (some ⟨gs, ofs + j, none⟩) from hdep 14 (by kernel_rfl) _ rfl)
              have hW := hJ (hkd (by kernel_rfl))
              subst hW
              rw [hU]
              unfold Oper.wp execOp
              go_simp
              rw [← hU]
              exact hK (.int .i64 cj) _ (fun _ => rfl) rfl (fun h => h)
            · have e72 := ev (show aa.eval (.tmp 72) = .int .i64 ci from hdep 9 (by kernel_rfl) _ rfl)
              have e78 := ev (show aa.eval (.tmp 78) = .int .i64 cj from hdep 15 (by kernel_rfl) _ rfl)
              have hW := hJ (hkd (by kernel_rfl))
              subst hW
              rw [hU]
              unfold Oper.wp execOp
              go_simp
              rw [← hU]
              exact hK (.int .i64 (ci + cj)) _ (fun _ => rfl) rfl (fun h => h)
            · have e79 := ev (show aa.eval (.tmp 79) = .int .i64 (ci + cj) from hdep 16 (by kernel_rfl) _ rfl)
              have hW := hJ (hkd (by kernel_rfl))
              subst hW
              rw [hU]
              unfold Oper.wp execOp
              go_simp
              rw [← hU]
              exact hK (.int .i64 s) _ (fun _ => rfl) rfl (fun h => h)
            · have e64 := ev (show aa.eval (.tmp 64) = .slice (some ⟨g, 0, none⟩) cs.length c2 from hdep 1 (by kernel_rfl) _ rfl)
              have e66 := ev (show aa.eval (.tmp 66) = .int .i64 (i : Int) from hdep 3 (by kernel_rfl) _ rfl)
              have hW := hJ (hkd (by kernel_rfl))
              subst hW
              rw [hU]
              unfold Oper.wp execOp
              go_simp
              rw [← hU]
              exact hK (.pointer (some ⟨g, i, none⟩)) _ (fun _ => rfl) rfl (fun h => h)
            · have e81 := ev (show aa.eval (.tmp 81) = .pointer (some ⟨g, i, none⟩) from hdep 18 (by kernel_rfl) _ rfl)
              have e80 := ev (show aa.eval (.tmp 80) = .int .i64 s from hdep 17 (by kernel_rfl) _ rfl)
              have hW := hJ (hks rfl)
              subst hW
              rw [hU]
              unfold Oper.wp execOp
              go_simp
              exact hK undef _ (fun e => by simp at e) (by rw [hFW] <;> rfl) (fun _ => by rw [hFW] <;> rfl)
          · intro vs nn sf wx hJ hv
            have hfin : wx = FW := hv 19 _ rfl
            subst hfin
            clear hv hJ
            rw [hFW]
            clear hFW hU
            simp only [putAll]
            clear hcei hcej hfr hw1 hw2 hw3
            go_upto_region 24 with (fail)
            have S4a : Hid (SSC w w2.heap.size X z (some ⟨gs, ofs, none⟩) c1 cs (k : Int) false (some ⟨g, 0, none⟩) c2 ⟨cs.set i s, nx, false⟩ ⟨2, (i : Int), (j : Int)⟩ ((u3.setCell ⟨g, i, none⟩ (.int .i64 s)).drew)) := (S3.out.setc hic s).drew
            obtain ⟨u4, hu4⟩ : ∃ u4, u4 = (u3.setCell ⟨g, i, none⟩ (.int .i64 s)).drew := ⟨_, rfl⟩
            rw [← hu4] at S4a ⊢
            have S4 := S4a
            clear hu4
            have hbx4 : u4.heap[X]? = some (.cells #[.slice (some ⟨g, 0, none⟩) cs.length c2, .int .i64 nx, .bool false] 33 (0, 0)) := (by have h := S4.out.box; simpa using h)
            have HBX4 := Lib.hid hbx4
            clear hbx4
            obtain ⟨m0, m1, m2, m3, m4, m5, m6⟩ := cell3 HBX4.out
            obtain ⟨n0, n1, n2, n3, n4, n5, n6⟩ := cell3 S4.out.ord
            obtain ⟨p0, p1, p2, p3, p4, p5, p6⟩ := cell3 S4.out.r1
            obtain ⟨q0, q1, q2, q3, q4, q5, q6⟩ := cell3 S4.out.r2
            have hz4 := S4.out.hz
            have hX4 := S4.out.hX
            have HF := fin6 S4.out.bel S4.out.own S4.out.r1 S4.out.r2 hs3 (.slice (some ⟨g, 0, none⟩) cs.length c2) (.int .i64 nx) (.bool false) (.int .i64 2) (.int .i64 (i : Int)) (.int .i64 (j : Int))
            have HFb := fin6b S4.out.bel S4.out.own S4.out.r1 S4.out.r2 hs3 (.slice (some ⟨g, 0, none⟩) cs.length c2) (.int .i64 nx) (.bool false) (.int .i64 2) (.int .i64 (i : Int)) (.int .i64 (j : Int))
            have G1 := gset3 (w := u4) (g := w.heap.size + 1) (.slice (some ⟨g, 0, none⟩) cs.length c2) (.int .i64 nx) (.bool false)
            have G2 := gset3 (w := u4) (g := w.heap.size + 1 + 1) (.int .i64 2) (.int .i64 (i : Int)) (.int .i64 (j : Int))
            obtain ⟨i0, i1, i2, _, _, _, _⟩ := cell3 (gblk G1 S4.out.ord (by simp; omega))
            obtain ⟨_, _, _, i3, i4, i5, _⟩ := cell3 (gblk G1 S4.out.r2 (by simp))
            obtain ⟨l0, l1, l2, _, _, _, _⟩ := cell3 (gblk G2 HBX4.out (by simp; omega))
            obtain ⟨_, _, _, l3, l4, l5, _⟩ := cell3 (gblk G2 S4.out.r1 (by simp))
            unfold set6 at HF
            unfold set6b at HFb
            have HFF := Lib.hid HF
            have HFG := Lib.hid HFb
            obtain ⟨f0, f1, f2, _, _, _, _⟩ := cell3 HFF.out.2.2.1
            obtain ⟨g0, g1, g2, _, _, _, _⟩ := cell3 HFF.out.2.2.2
            obtain ⟨f0', f1', f2', _, _, _, _⟩ := cell3 HFG.out.2.2.1
            obtain ⟨g0', g1', g2', _, _, _, _⟩ := cell3 HFG.out.2.2.2
            clear HF HFb G1 G2
            go_region
            all_goals (try go_wp2)
            all_goals first
              | exact bodyPost_ret (v := .tuple #[.agg #[.slice (some ⟨g, 0, none⟩) cs.length c2, .int .i64 nx, .bool false], .agg #[.int .i64 2, .int .i64 (i : Int), .int .i64 (j : Int)]]) (by simp [results, Try.results43, go_sem, f0, f1, f2, g0, g1, g2]) rfl (by rw [HG.out, HCO.out, HCS.out, HCD.out]; exact ⟨some ⟨g, 0, none⟩, c2, (by first | rfl | simp), HFF.out.1.drew, by simpa using hcc2, below_drew HFF.out.2.1⟩)
              | exact bodyPost_ret (v := .tuple #[.agg #[.slice (some ⟨g, 0, none⟩) cs.length c2, .int .i64 nx, .bool false], .agg #[.int .i64 2, .int .i64 (i : Int), .int .i64 (j : Int)]]) (by simp [results, Try.results43, go_sem, f0', f1', f2', g0', g1', g2']) rfl (by rw [HG.out, HCO.out, HCS.out, HCD.out]; exact ⟨some ⟨g, 0, none⟩, c2, (by first | rfl | simp), HFG.out.1.drew, by simpa using hcc2, below_drew HFG.out.2.1⟩)
        · have hl := HLL.out
          have habi := ordB_a HOB.out (.inr (.inr (.inl rfl)))
          simp only at habi
          obtain ⟨i, rfl⟩ := Int.eq_ofNat_of_zero_le habi.1
          have hic : i < cs.length := by omega
          have hi1 : (i : Int) < (cs.length : Int) := by omega
          have hi0 : (0 : Int) ≤ (i : Int) := by omega
          have habj := ordB_b HOB.out (.inr (.inl rfl))
          simp only at habj
          obtain ⟨j, rfl⟩ := Int.eq_ofNat_of_zero_le habj.1
          have hjc : j < cs.length := by omega
          have hj1 : (j : Int) < (cs.length : Int) := by omega
          have hj0 : (0 : Int) ≤ (j : Int) := by omega
          clear hl
          have hfr := HFR.out i
          obtain ⟨_, _, hA, _, hcti⟩ := HCE.out i hic
          simp only [Option.some.injEq, Addr.mk.injEq, and_true] at hA
          obtain ⟨rfl, rfl⟩ := hA
          rw [Nat.zero_add] at hcti
          obtain ⟨gs, ofs, rfl, _, hcej⟩ := S3.out.rd.at1 rfl hjc rfl
          have hvj := inB_iff.1 (hv _ (List.getElem_mem hjc))
          have HGcj := Lib.hid (celAt_get hjc)
          obtain ⟨cj, hcj⟩ : ∃ cj, cj = cs[j] := ⟨_, rfl⟩
          rw [← hcj] at hcej HGcj hvj
          clear hcj
          have HCD : Hid (corDo ⟨cs, (k : Int), false⟩ os clock ⟨3, (i : Int), (j : Int)⟩ = ⟨cs.set i cj, nx, false⟩) := by
            show corDo _ _ _ _ = _
            have e : corDo ⟨cs, (k : Int), false⟩ os clock ⟨3, (i : Int), (j : Int)⟩ = ⟨cs.set i (celAt cs j), ((k : Int) + 1) % (os.length : Int), false⟩ := rfl
            rw [e, HGcj.out, HNX.out]
          go_upto_region 15 with (fail)
          obtain ⟨U, hU⟩ : ∃ U, U = u3.drew := ⟨_, rfl⟩
          obtain ⟨FW, hFW⟩ : ∃ FW, FW = (u3.setCell ⟨g, i, none⟩ (.int .i64 cj)).drew := ⟨_, rfl⟩
          refine wp_region_each (N := 124) (kk := 11) (J := fun _ s W => s = false → W = U) (V := VAt [fun _ v => v = (.pointer (some ⟨X, 0, none⟩)), fun _ v => v = (.slice (some ⟨g, 0, none⟩) cs.length c2), fun _ v => v = (.pointer (some ⟨z, 1, none⟩)), fun _ v => v = (.int .i64 (i : Int)), fun _ v => v = (.pointer (some ⟨w.heap.size, 0, none⟩)), fun _ v => v = (.slice (some ⟨gs, ofs, none⟩) cs.length c1), fun _ v => v = (.pointer (some ⟨z, 2, none⟩)), fun _ v => v = (.int .i64 (j : Int)), fun _ v => v = (.pointer (some ⟨gs, ofs + j, none⟩)), fun _ v => v = (.int .i64 cj), fun _ v => v = (.pointer (some ⟨g, i, none⟩)), fun W _ => W = FW]) (Ext := fun w w' => w = FW → w' = FW) (by kernel_rfl) (by kernel_rfl) (by rfl) ?_ (fun _ => hU.symm) ?_ ?_
          · have hs : ∀ (Vs : List (World → Value → Prop)), AllP (fun p => ∀ w w' u, (w = FW → w' = FW) → p w u → p w' u) Vs → ∀ j w w' u, (w = FW → w' = FW) → VAt Vs j w u → VAt Vs j w' u := fun Vs hV j w w' u e h => by
              unfold VAt at *
              rw [List.getD_eq_getElem?_getD] at *
              cases hj : Vs[j]? with
              | none => trivial
              | some p => rw [hj] at h; exact AllP.mem hV p (List.mem_of_getElem? hj) w w' u e h
            exact hs _ ⟨(fun _ _ _ _ h => h), (fun _ _ _ _ h => h), (fun _ _ _ _ h => h), (fun _ _ _ _ h => h), (fun _ _ _ _ h => h), (fun _ _ _ _ h => h), (fun _ _ _ _ h => h), (fun _ _ _ _ h => h), (fun _ _ _ _ h => h), (fun _ _ _ _ h => h), (fun _ _ _ _ h => h), (fun _ _ _ e h => e h), trivial⟩
          · refine ⟨?_, ?_, ?_, ?_, ?_, ?_, ?_, ?_, ?_, ?_, ?_, ?_, trivial⟩
            all_goals intro nn sf aa WW hJ hks hkd hold hdep K hK
            · have e10 := ev (show aa.eval (.tmp 10) = .pointer (some ⟨X, 0, none⟩) from hold 10 (by kernel_rfl))
              have hW := hJ (hkd (by kernel_rfl))
              subst hW
              rw [hU]
              unfold Oper.wp execOp
              go_simp
              rw [← hU]
              exact hK (.pointer (some ⟨X, 0, none⟩)) _ (fun _ => rfl) rfl (fun h => h)
            · have e84 := ev (show aa.eval (.tmp 84) = .pointer (some ⟨X, 0, none⟩) from hdep 0 (by kernel_rfl) _ rfl)
              have hW := hJ (hkd (by kernel_rfl))
              subst hW
              rw [hU]
              unfold Oper.wp execOp
              go_simp
              rw [← hU]
              exact hK (.slice (some ⟨g, 0, none⟩) cs.length c2) _ (fun _ => rfl) rfl (fun h => h)
            · have e11 := ev (show aa.eval (.tmp 11) = .pointer (some ⟨z, 0, none⟩) from hold 11 (by kernel_rfl))
              have hW := hJ (hkd (by kernel_rfl))
              subst hW
              rw [hU]
              unfold Oper.wp execOp
              go_simp
              rw [← hU]
              exact hK (.pointer (some ⟨z, 1, none⟩)) _ (fun _ => rfl) rfl (fun h => h)
            · have e86 := ev (show aa.eval (.tmp 86) = .pointer (some ⟨z, 1, none⟩) from hdep 2 (by kernel_rfl) _ rfl)
              have hW := hJ (hkd (by kernel_rfl))
              subst hW
              rw [hU]
              unfold Oper.wp execOp
              go_simp
              rw [← hU]
              exact hK (.int .i64 (i : Int)) _ (fun _ => rfl) rfl (fun h => h)
            · have e4 := ev (show aa.eval (.tmp 4) = .pointer (some ⟨w.heap.size, 0, none⟩) from hold 4 (by kernel_rfl))
              have hW := hJ (hkd (by kernel_rfl))
              subst hW
              rw [hU]
              unfold Oper.wp execOp
              go_simp
              rw [← hU]
              exact hK (.pointer (some ⟨w.heap.size, 0, none⟩)) _ (fun _ => rfl) rfl (fun h => h)
            · have e88 := ev (show aa.eval (.tmp 88) = .pointer (some ⟨w.heap.size, 0, none⟩) from hdep 4 (by kernel_rfl) _ rfl)
              have hW := hJ (hkd (by kernel_rfl))
              subst hW
              rw [hU]
              unfold Oper.wp execOp
              go_simp
              rw [← hU]
              exact hK (.slice (some ⟨gs, ofs, none⟩) cs.length c1) _ (fun _ => rfl) rfl (fun h => h)
            · have e11 := ev (show aa.eval (.tmp 11) = .pointer (some ⟨z, 0, none⟩) from hold 11 (by kernel_rfl))
              have hW := hJ (hkd (by kernel_rfl))
              subst hW
              rw [hU]
              unfold Oper.wp execOp
              go_simp
              rw [← hU]
              exact hK (.pointer (some ⟨z, 2, none⟩)) _ (fun _ => rfl) rfl (fun h => h)
            · have e90 := ev (show aa.eval (.tmp 90) = .pointer (some ⟨z, 2, none⟩) from hdep 6 (by kernel_rfl) _ rfl)
              have hW := hJ (hkd (by kernel_rfl))
              subst hW
              rw [hU]
              unfold Oper.wp execOp
              go_simp
              rw [← hU]
              exact hK (.int .i64 (j : Int)) _ (fun _ => rfl) rfl (fun h => h)
            · have e89 := ev (show aa.eval (.tmp 89) = .slice (some ⟨gs, ofs, none⟩) cs.length c1 from hdep 5 (by kernel_rfl) _ rfl)
              have e91 := ev (show aa.eval (.tmp 91) = .int .i64 (j : Int) from hdep 7 (by kernel_rfl) _ rfl)
              have hW := hJ (hkd (by kernel_rfl))
              subst hW
              rw [hU]
              unfold Oper.wp execOp
              go_simp
              rw [← hU]
              exact hK (.pointer (some ⟨gs, ofs + j, none⟩)) _ (fun _ => rfl) rfl (fun h => h)
            · have e92 := ev (show aa.eval (.tmp 92) = .pointer (some ⟨gs, ofs + j, none⟩) from hdep 8 (by kernel_rfl) _ rfl)
              have hW := hJ (hkd (by kernel_rfl))
              subst hW
              rw [hU]
              unfold Oper.wp execOp
              go_simp
              rw [← hU]
              exact hK (.int .i64 cj) _ (fun _ => rfl) rfl (fun h => h)
            · have e85 := ev (show aa.eval (.tmp 85) = .slice (some ⟨g, 0, none⟩) cs.length c2 from hdep 1 (by kernel_rfl) _ rfl)
              have e87 := ev (show aa.eval (.tmp 87) = .int .i64 (i : Int) from hdep 3 (by kernel_rfl) _ rfl)
              have hW := hJ (hkd (by kernel_rfl))
              subst hW
              rw [hU]
              unfold Oper.wp execOp
              go_simp
              rw [← hU]
              exact hK (.pointer (some ⟨g, i, none⟩)) _ (fun _ => rfl) rfl (fun h => h)
            · have e94 := ev (show aa.eval (.tmp 94) = .pointer (some ⟨g, i, none⟩) from hdep 10 (by kernel_rfl) _ rfl)
              have e93 := ev (show aa.eval (.tmp 93) = .int .i64 cj from hdep 9 (by kernel_rfl) _ rfl)
              have hW := hJ (hks rfl)
              subst hW
              rw [hU]
              unfold Oper.wp execOp
              go_simp
              exact hK undef _ (fun e => by simp at e) (by rw [hFW] <;> rfl) (fun _ => by rw [hFW] <;> rfl)
          · intro vs nn sf wx hJ hv
            have hfin : wx = FW := hv 11 _ rfl
            subst hfin
            clear hv hJ
            rw [hFW]
            clear hFW hU
            simp only [putAll]
            clear hcej hfr
            go_upto_region 24 with (fail)
            have S4a : Hid (SSC w w2.heap.size X z (some ⟨gs, ofs, none⟩) c1 cs (k : Int) false (some ⟨g, 0, none⟩) c2 ⟨cs.set i cj, nx, false⟩ ⟨3, (i : Int), (j : Int)⟩ ((u3.setCell ⟨g, i, none⟩ (.int .i64 cj)).drew)) := (S3.out.setc hic cj).drew
            obtain ⟨u4, hu4⟩ : ∃ u4, u4 = (u3.setCell ⟨g, i, none⟩ (.int .i64 cj)).drew := ⟨_, rfl⟩
            rw [← hu4] at S4a ⊢
            have S4 := S4a
            clear hu4
            have hbx4 : u4.heap[X]? = some (.cells #[.slice (some ⟨g, 0, none⟩) cs.length c2, .int .i64 nx, .bool false] 33 (0, 0)) := (by have h := S4.out.box; simpa using h)
            have HBX4 := Lib.hid hbx4
            clear hbx4
            obtain ⟨m0, m1, m2, m3, m4, m5, m6⟩ := cell3 HBX4.out
            obtain ⟨n0, n1, n2, n3, n4, n5, n6⟩ := cell3 S4.out.ord
            obtain ⟨p0, p1, p2, p3, p4, p5, p6⟩ := cell3 S4.out.r1
            obtain ⟨q0, q1, q2, q3, q4, q5, q6⟩ := cell3 S4.out.r2
            have hz4 := S4.out.hz
            have hX4 := S4.out.hX
            have HF := fin6 S4.out.bel S4.out.own S4.out.r1 S4.out.r2 hs3 (.slice (some ⟨g, 0, none⟩) cs.length c2) (.int .i64 nx) (.bool false) (.int .i64 3) (.int .i64 (i : Int)) (.int .i64 (j : Int))
            have HFb := fin6b S4.out.bel S4.out.own S4.out.r1 S4.out.r2 hs3 (.slice (some ⟨g, 0, none⟩) cs.length c2) (.int .i64 nx) (.bool false) (.int .i64 3) (.int .i64 (i : Int)) (.int .i64 (j : Int))
            have G1 := gset3 (w := u4) (g := w.heap.size + 1) (.slice (some ⟨g, 0, none⟩) cs.length c2) (.int .i64 nx) (.bool false)
            have G2 := gset3 (w := u4) (g := w.heap.size + 1 + 1) (.int .i64 3) (.int .i64 (i : Int)) (.int .i64 (j : Int))
            obtain ⟨i0, i1, i2, _, _, _, _⟩ := cell3 (gblk G1 S4.out.ord (by simp; omega))
            obtain ⟨_, _, _, i3, i4, i5, _⟩ := cell3 (gblk G1 S4.out.r2 (by simp))
            obtain ⟨l0, l1, l2, _, _, _, _⟩ := cell3 (gblk G2 HBX4.out (by simp; omega))
            obtain ⟨_, _, _, l3, l4, l5, _⟩ := cell3 (gblk G2 S4.out.r1 (by simp))
            unfold set6 at HF
            unfold set6b at HFb
            have HFF := Lib.hid HF
            have HFG := Lib.hid HFb
            obtain ⟨f0, f1, f2, _, _, _, _⟩ := cell3 HFF.out.2.2.1
            obtain ⟨g0, g1, g2, _, _, _, _⟩ := cell3 HFF.out.2.2.2
            obtain ⟨f0', f1', f2', _, _, _, _⟩ := cell3 HFG.out.2.2.1
            obtain ⟨g0', g1', g2', _, _, _, _⟩ := cell3 HFG.out.2.2.2
            clear HF HFb G1 G2
            go_region
            all_goals (try go_wp2)
            all_goals first
              | exact bodyPost_ret (v := .tuple #[.agg #[.slice (some ⟨g, 0, none⟩) cs.length c2, .int .i64 nx, .bool false], .agg #[.int .i64 3, .int .i64 (i : Int), .int .i64 (j : Int)]]) (by simp [results, Try.results43, go_sem, f0, f1, f2, g0, g1, g2]) rfl (by rw [HG.out, HCO.out, HCS.out, HCD.out]; exact ⟨some ⟨g, 0, none⟩, c2, (by first | rfl | simp), HFF.out.1.drew, by simpa using hcc2, below_drew HFF.out.2.1⟩)
              | exact bodyPost_ret (v := .tuple #[.agg #[.slice (some ⟨g, 0, none⟩) cs.length c2, .int .i64 nx, .bool false], .agg #[.int .i64 3, .int .i64 (i : Int), .int .i64 (j : Int)]]) (by simp [results, Try.results43, go_sem, f0', f1', f2', g0', g1', g2']) rfl (by rw [HG.out, HCO.out, HCS.out, HCD.out]; exact ⟨some ⟨g, 0, none⟩, c2, (by first | rfl | simp), HFG.out.1.drew, by simpa using hcc2, below_drew HFG.out.2.1⟩)
        · have hl := HLL.out
          have habi := ordB_a HOB.out (.inr (.inr (.inr rfl)))
          simp only at habi
          obtain ⟨i, rfl⟩ := Int.eq_ofNat_of_zero_le habi.1
          have hic : i < cs.length := by omega
          have hi1 : (i : Int) < (cs.length : Int) := by omega
          have hi0 : (0 : Int) ≤ (i : Int) := by omega
          clear hl
          have hfr := HFR.out i
          obtain ⟨_, _, hA, _, hcti⟩ := HCE.out i hic
          simp only [Option.some.injEq, Addr.mk.injEq, and_true] at hA
          obtain ⟨rfl, rfl⟩ := hA
          rw [Nat.zero_add] at hcti
          have HCD : Hid (corDo ⟨cs, (k : Int), false⟩ os clock ⟨7, (i : Int), b'⟩ = ⟨cs.set i (clock % 256), nx, false⟩) := by
            show corDo _ _ _ _ = _
            have e : corDo ⟨cs, (k : Int), false⟩ os clock ⟨7, (i : Int), b'⟩ = ⟨cs.set i (clock % 256), ((k : Int) + 1) % (os.length : Int), false⟩ := rfl
            rw [e, HNX.out]
          go_upto_region 24 with (fail)
          have S4a : Hid (SSC w w2.heap.size X z A1 c1 cs (k : Int) false (some ⟨g, 0, none⟩) c2 ⟨cs.set i (clock % 256), nx, false⟩ ⟨7, (i : Int), b'⟩ (u3.setCell ⟨g, i, none⟩ (.int .i64 (clock % 256)))) := (S3.out.setc hic (clock % 256))
          obtain ⟨u4, hu4⟩ : ∃ u4, u4 = u3.setCell ⟨g, i, none⟩ (.int .i64 (clock % 256)) := ⟨_, rfl⟩
          rw [← hu4] at S4a ⊢
          have S4 := S4a
          clear hu4
          have hbx4 : u4.heap[X]? = some (.cells #[.slice (some ⟨g, 0, none⟩) cs.length c2, .int .i64 nx, .bool false] 33 (0, 0)) := (by have h := S4.out.box; simpa using h)
          have HBX4 := Lib.hid hbx4
          clear hbx4
          obtain ⟨m0, m1, m2, m3, m4, m5, m6⟩ := cell3 HBX4.out
          obtain ⟨n0, n1, n2, n3, n4, n5, n6⟩ := cell3 S4.out.ord
          obtain ⟨p0, p1, p2, p3, p4, p5, p6⟩ := cell3 S4.out.r1
          obtain ⟨q0, q1, q2, q3, q4, q5, q6⟩ := cell3 S4.out.r2
          have hz4 := S4.out.hz
          have hX4 := S4.out.hX
          have HF := fin6 S4.out.bel S4.out.own S4.out.r1 S4.out.r2 hs3 (.slice (some ⟨g, 0, none⟩) cs.length c2) (.int .i64 nx) (.bool false) (.int .i64 7) (.int .i64 (i : Int)) (.int .i64 b')
          have HFb := fin6b S4.out.bel S4.out.own S4.out.r1 S4.out.r2 hs3 (.slice (some ⟨g, 0, none⟩) cs.length c2) (.int .i64 nx) (.bool false) (.int .i64 7) (.int .i64 (i : Int)) (.int .i64 b')
          have G1 := gset3 (w := u4) (g := w.heap.size + 1) (.slice (some ⟨g, 0, none⟩) cs.length c2) (.int .i64 nx) (.bool false)
          have G2 := gset3 (w := u4) (g := w.heap.size + 1 + 1) (.int .i64 7) (.int .i64 (i : Int)) (.int .i64 b')
          obtain ⟨i0, i1, i2, _, _, _, _⟩ := cell3 (gblk G1 S4.out.ord (by simp; omega))
          obtain ⟨_, _, _, i3, i4, i5, _⟩ := cell3 (gblk G1 S4.out.r2 (by simp))
          obtain ⟨l0, l1, l2, _, _, _, _⟩ := cell3 (gblk G2 HBX4.out (by simp; omega))
          obtain ⟨_, _, _, l3, l4, l5, _⟩ := cell3 (gblk G2 S4.out.r1 (by simp))
          unfold set6 at HF
          unfold set6b at HFb
          have HFF := Lib.hid HF
          have HFG := Lib.hid HFb
          obtain ⟨f0, f1, f2, _, _, _, _⟩ := cell3 HFF.out.2.2.1
          obtain ⟨g0, g1, g2, _, _, _, _⟩ := cell3 HFF.out.2.2.2
          obtain ⟨f0', f1', f2', _, _, _, _⟩ := cell3 HFG.out.2.2.1
          obtain ⟨g0', g1', g2', _, _, _, _⟩ := cell3 HFG.out.2.2.2
          clear HF HFb G1 G2
          go_region
          all_goals (try go_wp2)
          all_goals first
            | exact bodyPost_ret (v := .tuple #[.agg #[.slice (some ⟨g, 0, none⟩) cs.length c2, .int .i64 nx, .bool false], .agg #[.int .i64 7, .int .i64 (i : Int), .int .i64 b']]) (by simp [results, Try.results43, go_sem, f0, f1, f2, g0, g1, g2]) rfl (by rw [HG.out, HCO.out, HCS.out, HCD.out]; exact ⟨some ⟨g, 0, none⟩, c2, (by first | rfl | simp), HFF.out.1.drew, by simpa using hcc2, below_drew HFF.out.2.1⟩)
            | exact bodyPost_ret (v := .tuple #[.agg #[.slice (some ⟨g, 0, none⟩) cs.length c2, .int .i64 nx, .bool false], .agg #[.int .i64 7, .int .i64 (i : Int), .int .i64 b']]) (by simp [results, Try.results43, go_sem, f0', f1', f2', g0', g1', g2']) rfl (by rw [HG.out, HCO.out, HCS.out, HCD.out]; exact ⟨some ⟨g, 0, none⟩, c2, (by first | rfl | simp), HFG.out.1.drew, by simpa using hcc2, below_drew HFG.out.2.1⟩)
        · have hl := HLL.out
          have habj := ordB_b HOB.out (.inr (.inr rfl))
          simp only at habj
          obtain ⟨j, rfl⟩ := Int.eq_ofNat_of_zero_le habj.1
          have hjc : j < cs.length := by omega
          have hj1 : (j : Int) < (cs.length : Int) := by omega
          have hj0 : (0 : Int) ≤ (j : Int) := by omega
          clear hl
          obtain ⟨gs, ofs, rfl, _, hcej⟩ := S3.out.rd.at1 rfl hjc rfl
          have hvj := inB_iff.1 (hv _ (List.getElem_mem hjc))
          have HGcj := Lib.hid (celAt_get hjc)
          obtain ⟨cj, hcj⟩ : ∃ cj, cj = cs[j] := ⟨_, rfl⟩
          rw [← hcj] at hcej HGcj hvj
          clear hcj
          have HC4 : Hid (corDo ⟨cs, (k : Int), false⟩ os clock ⟨4, a, (j : Int)⟩ = ⟨cs, if cj = 0 then a else nx, false⟩) := by
            show corDo _ _ _ _ = _
            have e : corDo ⟨cs, (k : Int), false⟩ os clock ⟨4, a, (j : Int)⟩ = ⟨cs, if celAt cs j = 0 then a else ((k : Int) + 1) % (os.length : Int), false⟩ := rfl
            rw [e, HGcj.out, HNX.out]
          by_cases hcz : cj = 0
          · have HCD : Hid (corDo ⟨cs, (k : Int), false⟩ os clock ⟨4, a, (j : Int)⟩ = ⟨cs, a, false⟩) := by show _ = _; rw [HC4.out, if_pos hcz]
            have hcq : (cj == 0) = true := by rw [beq_iff_eq]; exact hcz
            clear hcz
            go_upto_region 24 with (fail)
            have S4a : Hid (SSC w w2.heap.size X z (some ⟨gs, ofs, none⟩) c1 cs (k : Int) false (some ⟨g, 0, none⟩) c2 ⟨cs, a, false⟩ ⟨4, a, (j : Int)⟩ (u3.setCell ⟨X, 1, none⟩ (.int .i64 a))) := (S3.out.at a)
            obtain ⟨u4, hu4⟩ : ∃ u4, u4 = u3.setCell ⟨X, 1, none⟩ (.int .i64 a) := ⟨_, rfl⟩
            rw [← hu4] at S4a ⊢
            have S4 := S4a
            clear hu4
            have hbx4 : u4.heap[X]? = some (.cells #[.slice (some ⟨g, 0, none⟩) cs.length c2, .int .i64 a, .bool false] 33 (0, 0)) := (by have h := S4.out.box; simpa using h)
            have HBX4 := Lib.hid hbx4
            clear hbx4
            obtain ⟨m0, m1, m2, m3, m4, m5, m6⟩ := cell3 HBX4.out
            obtain ⟨n0, n1, n2, n3, n4, n5, n6⟩ := cell3 S4.out.ord
            obtain ⟨p0, p1, p2, p3, p4, p5, p6⟩ := cell3 S4.out.r1
            obtain ⟨q0, q1, q2, q3, q4, q5, q6⟩ := cell3 S4.out.r2
            have hz4 := S4.out.hz
            have hX4 := S4.out.hX
            have HF := fin6 S4.out.bel S4.out.own S4.out.r1 S4.out.r2 hs3 (.slice (some ⟨g, 0, none⟩) cs.length c2) (.int .i64 a) (.bool false) (.int .i64 4) (.int .i64 a) (.int .i64 (j : Int))
            have HFb := fin6b S4.out.bel S4.out.own S4.out.r1 S4.out.r2 hs3 (.slice (some ⟨g, 0, none⟩) cs.length c2) (.int .i64 a) (.bool false) (.int .i64 4) (.int .i64 a) (.int .i64 (j : Int))
            have G1 := gset3 (w := u4) (g := w.heap.size + 1) (.slice (some ⟨g, 0, none⟩) cs.length c2) (.int .i64 a) (.bool false)
            have G2 := gset3 (w := u4) (g := w.heap.size + 1 + 1) (.int .i64 4) (.int .i64 a) (.int .i64 (j : Int))
            obtain ⟨i0, i1, i2, _, _, _, _⟩ := cell3 (gblk G1 S4.out.ord (by simp; omega))
            obtain ⟨_, _, _, i3, i4, i5, _⟩ := cell3 (gblk G1 S4.out.r2 (by simp))
            obtain ⟨l0, l1, l2, _, _, _, _⟩ := cell3 (gblk G2 HBX4.out (by simp; omega))
            obtain ⟨_, _, _, l3, l4, l5, _⟩ := cell3 (gblk G2 S4.out.r1 (by simp))
            unfold set6 at HF
            unfold set6b at HFb
            have HFF := Lib.hid HF
            have HFG := Lib.hid HFb
            obtain ⟨f0, f1, f2, _, _, _, _⟩ := cell3 HFF.out.2.2.1
            obtain ⟨g0, g1, g2, _, _, _, _⟩ := cell3 HFF.out.2.2.2
            obtain ⟨f0', f1', f2', _, _, _, _⟩ := cell3 HFG.out.2.2.1
            obtain ⟨g0', g1', g2', _, _, _, _⟩ := cell3 HFG.out.2.2.2
            clear HF HFb G1 G2
            go_region
            all_goals (try go_wp2)
            all_goals first
              | exact bodyPost_ret (v := .tuple #[.agg #[.slice (some ⟨g, 0, none⟩) cs.length c2, .int .i64 a, .bool false], .agg #[.int .i64 4, .int .i64 a, .int .i64 (j : Int)]]) (by simp [results, Try.results43, go_sem, f0, f1, f2, g0, g1, g2]) rfl (by rw [HG.out, HCO.out, HCS.out, HCD.out]; exact ⟨some ⟨g, 0, none⟩, c2, (by first | rfl | simp), HFF.out.1.drew, by simpa using hcc2, below_drew HFF.out.2.1⟩)
              | exact bodyPost_ret (v := .tuple #[.agg #[.slice (some ⟨g, 0, none⟩) cs.length c2, .int .i64 a, .bool false], .agg #[.int .i64 4, .int .i64 a, .int .i64 (j : Int)]]) (by simp [results, Try.results43, go_sem, f0', f1', f2', g0', g1', g2']) rfl (by rw [HG.out, HCO.out, HCS.out, HCD.out]; exact ⟨some ⟨g, 0, none⟩, c2, (by first | rfl | simp), HFG.out.1.drew, by simpa using hcc2, below_drew HFG.out.2.1⟩)
          · have HCD : Hid (corDo ⟨cs, (k : Int), false⟩ os clock ⟨4, a, (j : Int)⟩ = ⟨cs, nx, false⟩) := by show _ = _; rw [HC4.out, if_neg hcz]
            have hcq : (cj == 0) = false := by rw [beq_eq_false_iff_ne]; exact hcz
            clear hcz
            go_upto_region 24 with (fail)
            have S4a : Hid (SSC w w2.heap.size X z (some ⟨gs, ofs, none⟩) c1 cs (k : Int) false (some ⟨g, 0, none⟩) c2 ⟨cs, nx, false⟩ ⟨4, a, (j : Int)⟩ (u3)) := S3
            obtain ⟨u4, hu4⟩ : ∃ u4, u4 = u3 := ⟨_, rfl⟩
            rw [← hu4] at S4a ⊢
            have S4 := S4a
            clear hu4
            have hbx4 : u4.heap[X]? = some (.cells #[.slice (some ⟨g, 0, none⟩) cs.length c2, .int .i64 nx, .bool false] 33 (0, 0)) := (by have h := S4.out.box; simpa using h)
            have HBX4 := Lib.hid hbx4
            clear hbx4
            obtain ⟨m0, m1, m2, m3, m4, m5, m6⟩ := cell3 HBX4.out
            obtain ⟨n0, n1, n2, n3, n4, n5, n6⟩ := cell3 S4.out.ord
            obtain ⟨p0, p1, p2, p3, p4, p5, p6⟩ := cell3 S4.out.r1
            obtain ⟨q0, q1, q2, q3, q4, q5, q6⟩ := cell3 S4.out.r2
            have hz4 := S4.out.hz
            have hX4 := S4.out.hX
            have HF := fin6 S4.out.bel S4.out.own S4.out.r1 S4.out.r2 hs3 (.slice (some ⟨g, 0, none⟩) cs.length c2) (.int .i64 nx) (.bool false) (.int .i64 4) (.int .i64 a) (.int .i64 (j : Int))
            have HFb := fin6b S4.out.bel S4.out.own S4.out.r1 S4.out.r2 hs3 (.slice (some ⟨g, 0, none⟩) cs.length c2) (.int .i64 nx) (.bool false) (.int .i64 4) (.int .i64 a) (.int .i64 (j : Int))
            have G1 := gset3 (w := u4) (g := w.heap.size + 1) (.slice (some ⟨g, 0, none⟩) cs.length c2) (.int .i64 nx) (.bool false)
            have G2 := gset3 (w := u4) (g := w.heap.size + 1 + 1) (.int .i64 4) (.int .i64 a) (.int .i64 (j : Int))
            obtain ⟨i0, i1, i2, _, _, _, _⟩ := cell3 (gblk G1 S4.out.ord (by simp; omega))
            obtain ⟨_, _, _, i3, i4, i5, _⟩ := cell3 (gblk G1 S4.out.r2 (by simp))
            obtain ⟨l0, l1, l2, _, _, _, _⟩ := cell3 (gblk G2 HBX4.out (by simp; omega))
            obtain ⟨_, _, _, l3, l4, l5, _⟩ := cell3 (gblk G2 S4.out.r1 (by simp))
            unfold set6 at HF
            unfold set6b at HFb
            have HFF := Lib.hid HF
            have HFG := Lib.hid HFb
            obtain ⟨f0, f1, f2, _, _, _, _⟩ := cell3 HFF.out.2.2.1
            obtain ⟨g0, g1, g2, _, _, _, _⟩ := cell3 HFF.out.2.2.2
            obtain ⟨f0', f1', f2', _, _, _, _⟩ := cell3 HFG.out.2.2.1
            obtain ⟨g0', g1', g2', _, _, _, _⟩ := cell3 HFG.out.2.2.2
            clear HF HFb G1 G2
            go_region
            all_goals (try go_wp2)
            all_goals first
              | exact bodyPost_ret (v := .tuple #[.agg #[.slice (some ⟨g, 0, none⟩) cs.length c2, .int .i64 nx, .bool false], .agg #[.int .i64 4, .int .i64 a, .int .i64 (j : Int)]]) (by simp [results, Try.results43, go_sem, f0, f1, f2, g0, g1, g2]) rfl (by rw [HG.out, HCO.out, HCS.out, HCD.out]; exact ⟨some ⟨g, 0, none⟩, c2, (by first | rfl | simp), HFF.out.1.drew, by simpa using hcc2, below_drew HFF.out.2.1⟩)
              | exact bodyPost_ret (v := .tuple #[.agg #[.slice (some ⟨g, 0, none⟩) cs.length c2, .int .i64 nx, .bool false], .agg #[.int .i64 4, .int .i64 a, .int .i64 (j : Int)]]) (by simp [results, Try.results43, go_sem, f0', f1', f2', g0', g1', g2']) rfl (by rw [HG.out, HCO.out, HCS.out, HCD.out]; exact ⟨some ⟨g, 0, none⟩, c2, (by first | rfl | simp), HFG.out.1.drew, by simpa using hcc2, below_drew HFG.out.2.1⟩)
        · have HCD : Hid (corDo ⟨cs, (k : Int), false⟩ os clock ⟨8, a, b'⟩ = ⟨cs, (k : Int), true⟩) := rfl
          have hxh := Lib.hid S3.out.halt
          obtain ⟨t0, t1, t2, t3, t4, t5, t6⟩ := cell3 hxh.out.box
          obtain ⟨r0, r1, r2, r3, r4, r5, r6⟩ := cell3 hxh.out.src
          go_upto_region 24 with (fail)
          have S4a : Hid (SSC w w2.heap.size X z A1 c1 cs (k : Int) false (some ⟨g, 0, none⟩) c2 ⟨cs, (k : Int), true⟩ ⟨8, a, b'⟩ (((u3.setCell ⟨X, 2, none⟩ (.bool true)).setCell ⟨X, 1, none⟩ (.int .i64 (k : Int))))) := (S3.out.halt.at (k : Int))
          obtain ⟨u4, hu4⟩ : ∃ u4, u4 = ((u3.setCell ⟨X, 2, none⟩ (.bool true)).setCell ⟨X, 1, none⟩ (.int .i64 (k : Int))) := ⟨_, rfl⟩
          rw [← hu4] at S4a ⊢
          have S4 := S4a
          clear hu4
          have hbx4 : u4.heap[X]? = some (.cells #[.slice (some ⟨g, 0, none⟩) cs.length c2, .int .i64 (k : Int), .bool true] 33 (0, 0)) := (by have h := S4.out.box; simpa using h)
          have HBX4 := Lib.hid hbx4
          clear hbx4
          obtain ⟨m0, m1, m2, m3, m4, m5, m6⟩ := cell3 HBX4.out
          obtain ⟨n0, n1, n2, n3, n4, n5, n6⟩ := cell3 S4.out.ord
          obtain ⟨p0, p1, p2, p3, p4, p5, p6⟩ := cell3 S4.out.r1
          obtain ⟨q0, q1, q2, q3, q4, q5, q6⟩ := cell3 S4.out.r2
          have hz4 := S4.out.hz
          have hX4 := S4.out.hX
          have HF := fin6 S4.out.bel S4.out.own S4.out.r1 S4.out.r2 hs3 (.slice (some ⟨g, 0, none⟩) cs.length c2) (.int .i64 (k : Int)) (.bool true) (.int .i64 8) (.int .i64 a) (.int .i64 b')
          have HFb := fin6b S4.out.bel S4.out.own S4.out.r1 S4.out.r2 hs3 (.slice (some ⟨g, 0, none⟩) cs.length c2) (.int .i64 (k : Int)) (.bool true) (.int .i64 8) (.int .i64 a) (.int .i64 b')
          have G1 := gset3 (w := u4) (g := w.heap.size + 1) (.slice (some ⟨g, 0, none⟩) cs.length c2) (.int .i64 (k : Int)) (.bool true)
          have G2 := gset3 (w := u4) (g := w.heap.size + 1 + 1) (.int .i64 8) (.int .i64 a) (.int .i64 b')
          obtain ⟨i0, i1, i2, _, _, _, _⟩ := cell3 (gblk G1 S4.out.ord (by simp; omega))
          obtain ⟨_, _, _, i3, i4, i5, _⟩ := cell3 (gblk G1 S4.out.r2 (by simp))
          obtain ⟨l0, l1, l2, _, _, _, _⟩ := cell3 (gblk G2 HBX4.out (by simp; omega))
          obtain ⟨_, _, _, l3, l4, l5, _⟩ := cell3 (gblk G2 S4.out.r1 (by simp))
          unfold set6 at HF
          unfold set6b at HFb
          have HFF := Lib.hid HF
          have HFG := Lib.hid HFb
          obtain ⟨f0, f1, f2, _, _, _, _⟩ := cell3 HFF.out.2.2.1
          obtain ⟨g0, g1, g2, _, _, _, _⟩ := cell3 HFF.out.2.2.2
          obtain ⟨f0', f1', f2', _, _, _, _⟩ := cell3 HFG.out.2.2.1
          obtain ⟨g0', g1', g2', _, _, _, _⟩ := cell3 HFG.out.2.2.2
          clear HF HFb G1 G2
          go_region
          all_goals (try go_wp2)
          all_goals first
            | exact bodyPost_ret (v := .tuple #[.agg #[.slice (some ⟨g, 0, none⟩) cs.length c2, .int .i64 (k : Int), .bool true], .agg #[.int .i64 8, .int .i64 a, .int .i64 b']]) (by simp [results, Try.results43, go_sem, f0, f1, f2, g0, g1, g2]) rfl (by rw [HG.out, HCO.out, HCS.out, HCD.out]; exact ⟨some ⟨g, 0, none⟩, c2, (by first | rfl | simp), HFF.out.1.drew, by simpa using hcc2, below_drew HFF.out.2.1⟩)
            | exact bodyPost_ret (v := .tuple #[.agg #[.slice (some ⟨g, 0, none⟩) cs.length c2, .int .i64 (k : Int), .bool true], .agg #[.int .i64 8, .int .i64 a, .int .i64 b']]) (by simp [results, Try.results43, go_sem, f0', f1', f2', g0', g1', g2']) rfl (by rw [HG.out, HCO.out, HCS.out, HCD.out]; exact ⟨some ⟨g, 0, none⟩, c2, (by first | rfl | simp), HFG.out.1.drew, by simpa using hcc2, below_drew HFG.out.2.1⟩)
        · have HCD : Hid (corDo ⟨cs, (k : Int), false⟩ os clock ⟨5, a, b'⟩ = ⟨cs, nx, false⟩) := by
            show corDo _ _ _ _ = _
            have e : corDo ⟨cs, (k : Int), false⟩ os clock ⟨5, a, b'⟩ = ⟨cs, ((k : Int) + 1) % (os.length : Int), false⟩ := rfl
            rw [e, HNX.out]
          go_upto_region 24 with (fail)
          have S4a : Hid (SSC w w2.heap.size X z A1 c1 cs (k : Int) false (some ⟨g, 0, none⟩) c2 ⟨cs, nx, false⟩ ⟨5, a, b'⟩ (u3)) := S3
          obtain ⟨u4, hu4⟩ : ∃ u4, u4 = u3 := ⟨_, rfl⟩
          rw [← hu4] at S4a ⊢
          have S4 := S4a
          clear hu4
          have hbx4 : u4.heap[X]? = some (.cells #[.slice (some ⟨g, 0, none⟩) cs.length c2, .int .i64 nx, .bool false] 33 (0, 0)) := (by have h := S4.out.box; simpa using h)
          have HBX4 := Lib.hid hbx4
          clear hbx4
          obtain ⟨m0, m1, m2, m3, m4, m5, m6⟩ := cell3 HBX4.out
          obtain ⟨n0, n1, n2, n3, n4, n5, n6⟩ := cell3 S4.out.ord
          obtain ⟨p0, p1, p2, p3, p4, p5, p6⟩ := cell3 S4.out.r1
          obtain ⟨q0, q1, q2, q3, q4, q5, q6⟩ := cell3 S4.out.r2
          have hz4 := S4.out.hz
          have hX4 := S4.out.hX
          have HF := fin6 S4.out.bel S4.out.own S4.out.r1 S4.out.r2 hs3 (.slice (some ⟨g, 0, none⟩) cs.length c2) (.int .i64 nx) (.bool false) (.int .i64 5) (.int .i64 a) (.int .i64 b')
          have HFb := fin6b S4.out.bel S4.out.own S4.out.r1 S4.out.r2 hs3 (.slice (some ⟨g, 0, none⟩) cs.length c2) (.int .i64 nx) (.bool false) (.int .i64 5) (.int .i64 a) (.int .i64 b')
          have G1 := gset3 (w := u4) (g := w.heap.size + 1) (.slice (some ⟨g, 0, none⟩) cs.length c2) (.int .i64 nx) (.bool false)
          have G2 := gset3 (w := u4) (g := w.heap.size + 1 + 1) (.int .i64 5) (.int .i64 a) (.int .i64 b')
          obtain ⟨i0, i1, i2, _, _, _, _⟩ := cell3 (gblk G1 S4.out.ord (by simp; omega))
          obtain ⟨_, _, _, i3, i4, i5, _⟩ := cell3 (gblk G1 S4.out.r2 (by simp))
          obtain ⟨l0, l1, l2, _, _, _, _⟩ := cell3 (gblk G2 HBX4.out (by simp; omega))
          obtain ⟨_, _, _, l3, l4, l5, _⟩ := cell3 (gblk G2 S4.out.r1 (by simp))
          unfold set6 at HF
          unfold set6b at HFb
          have HFF := Lib.hid HF
          have HFG := Lib.hid HFb
          obtain ⟨f0, f1, f2, _, _, _, _⟩ := cell3 HFF.out.2.2.1
          obtain ⟨g0, g1, g2, _, _, _, _⟩ := cell3 HFF.out.2.2.2
          obtain ⟨f0', f1', f2', _, _, _, _⟩ := cell3 HFG.out.2.2.1
          obtain ⟨g0', g1', g2', _, _, _, _⟩ := cell3 HFG.out.2.2.2
          clear HF HFb G1 G2
          go_region
          all_goals (try go_wp2)
          all_goals first
            | exact bodyPost_ret (v := .tuple #[.agg #[.slice (some ⟨g, 0, none⟩) cs.length c2, .int .i64 nx, .bool false], .agg #[.int .i64 5, .int .i64 a, .int .i64 b']]) (by simp [results, Try.results43, go_sem, f0, f1, f2, g0, g1, g2]) rfl (by rw [HG.out, HCO.out, HCS.out, HCD.out]; exact ⟨some ⟨g, 0, none⟩, c2, (by first | rfl | simp), HFF.out.1.drew, by simpa using hcc2, below_drew HFF.out.2.1⟩)
            | exact bodyPost_ret (v := .tuple #[.agg #[.slice (some ⟨g, 0, none⟩) cs.length c2, .int .i64 nx, .bool false], .agg #[.int .i64 5, .int .i64 a, .int .i64 b']]) (by simp [results, Try.results43, go_sem, f0', f1', f2', g0', g1', g2']) rfl (by rw [HG.out, HCO.out, HCS.out, HCD.out]; exact ⟨some ⟨g, 0, none⟩, c2, (by first | rfl | simp), HFG.out.1.drew, by simpa using hcc2, below_drew HFG.out.2.1⟩)
        · have HCD : Hid (corDo ⟨cs, (k : Int), false⟩ os clock ⟨6, a, b'⟩ = ⟨cs, nx, false⟩) := by
            show corDo _ _ _ _ = _
            have e : corDo ⟨cs, (k : Int), false⟩ os clock ⟨6, a, b'⟩ = ⟨cs, ((k : Int) + 1) % (os.length : Int), false⟩ := rfl
            rw [e, HNX.out]
          go_upto_region 24 with (fail)
          have S4a : Hid (SSC w w2.heap.size X z A1 c1 cs (k : Int) false (some ⟨g, 0, none⟩) c2 ⟨cs, nx, false⟩ ⟨6, a, b'⟩ (u3)) := S3
          obtain ⟨u4, hu4⟩ : ∃ u4, u4 = u3 := ⟨_, rfl⟩
          rw [← hu4] at S4a ⊢
          have S4 := S4a
          clear hu4
          have hbx4 : u4.heap[X]? = some (.cells #[.slice (some ⟨g, 0, none⟩) cs.length c2, .int .i64 nx, .bool false] 33 (0, 0)) := (by have h := S4.out.box; simpa using h)
          have HBX4 := Lib.hid hbx4
          clear hbx4
          obtain ⟨m0, m1, m2, m3, m4, m5, m6⟩ := cell3 HBX4.out
          obtain ⟨n0, n1, n2, n3, n4, n5, n6⟩ := cell3 S4.out.ord
          obtain ⟨p0, p1, p2, p3, p4, p5, p6⟩ := cell3 S4.out.r1
          obtain ⟨q0, q1, q2, q3, q4, q5, q6⟩ := cell3 S4.out.r2
          have hz4 := S4.out.hz
          have hX4 := S4.out.hX
          have HF := fin6 S4.out.bel S4.out.own S4.out.r1 S4.out.r2 hs3 (.slice (some ⟨g, 0, none⟩) cs.length c2) (.int .i64 nx) (.bool false) (.int .i64 6) (.int .i64 a) (.int .i64 b')
          have HFb := fin6b S4.out.bel S4.out.own S4.out.r1 S4.out.r2 hs3 (.slice (some ⟨g, 0, none⟩) cs.length c2) (.int .i64 nx) (.bool false) (.int .i64 6) (.int .i64 a) (.int .i64 b')
          have G1 := gset3 (w := u4) (g := w.heap.size + 1) (.slice (some ⟨g, 0, none⟩) cs.length c2) (.int .i64 nx) (.bool false)
          have G2 := gset3 (w := u4) (g := w.heap.size + 1 + 1) (.int .i64 6) (.int .i64 a) (.int .i64 b')
          obtain ⟨i0, i1, i2, _, _, _, _⟩ := cell3 (gblk G1 S4.out.ord (by simp; omega))
          obtain ⟨_, _, _, i3, i4, i5, _⟩ := cell3 (gblk G1 S4.out.r2 (by simp))
          obtain ⟨l0, l1, l2, _, _, _, _⟩ := cell3 (gblk G2 HBX4.out (by simp; omega))
          obtain ⟨_, _, _, l3, l4, l5, _⟩ := cell3 (gblk G2 S4.out.r1 (by simp))
          unfold set6 at HF
          unfold set6b at HFb
          have HFF := Lib.hid HF
          have HFG := Lib.hid HFb
          obtain ⟨f0, f1, f2, _, _, _, _⟩ := cell3 HFF.out.2.2.1
          obtain ⟨g0, g1, g2, _, _, _, _⟩ := cell3 HFF.out.2.2.2
          obtain ⟨f0', f1', f2', _, _, _, _⟩ := cell3 HFG.out.2.2.1
          obtain ⟨g0', g1', g2', _, _, _, _⟩ := cell3 HFG.out.2.2.2
          clear HF HFb G1 G2
          go_region
          all_goals (try go_wp2)
          all_goals first
            | exact bodyPost_ret (v := .tuple #[.agg #[.slice (some ⟨g, 0, none⟩) cs.length c2, .int .i64 nx, .bool false], .agg #[.int .i64 6, .int .i64 a, .int .i64 b']]) (by simp [results, Try.results43, go_sem, f0, f1, f2, g0, g1, g2]) rfl (by rw [HG.out, HCO.out, HCS.out, HCD.out]; exact ⟨some ⟨g, 0, none⟩, c2, (by first | rfl | simp), HFF.out.1.drew, by simpa using hcc2, below_drew HFF.out.2.1⟩)
            | exact bodyPost_ret (v := .tuple #[.agg #[.slice (some ⟨g, 0, none⟩) cs.length c2, .int .i64 nx, .bool false], .agg #[.int .i64 6, .int .i64 a, .int .i64 b']]) (by simp [results, Try.results43, go_sem, f0', f1', f2', g0', g1', g2']) rfl (by rw [HG.out, HCO.out, HCS.out, HCD.out]; exact ⟨some ⟨g, 0, none⟩, c2, (by first | rfl | simp), HFG.out.1.drew, by simpa using hcc2, below_drew HFG.out.2.1⟩)
        · have HCD : Hid (corDo ⟨cs, (k : Int), false⟩ os clock ⟨0, a, b'⟩ = ⟨cs, nx, false⟩) := by
            show corDo _ _ _ _ = _
            have e : corDo ⟨cs, (k : Int), false⟩ os clock ⟨0, a, b'⟩ = ⟨cs, ((k : Int) + 1) % (os.length : Int), false⟩ := rfl
            rw [e, HNX.out]
          go_upto_region 24 with (fail)
          have S4a : Hid (SSC w w2.heap.size X z A1 c1 cs (k : Int) false (some ⟨g, 0, none⟩) c2 ⟨cs, nx, false⟩ ⟨0, a, b'⟩ (u3)) := S3
          obtain ⟨u4, hu4⟩ : ∃ u4, u4 = u3 := ⟨_, rfl⟩
          rw [← hu4] at S4a ⊢
          have S4 := S4a
          clear hu4
          have hbx4 : u4.heap[X]? = some (.cells #[.slice (some ⟨g, 0, none⟩) cs.length c2, .int .i64 nx, .bool false] 33 (0, 0)) := (by have h := S4.out.box; simpa using h)
          have HBX4 := Lib.hid hbx4
          clear hbx4
          obtain ⟨m0, m1, m2, m3, m4, m5, m6⟩ := cell3 HBX4.out
          obtain ⟨n0, n1, n2, n3, n4, n5, n6⟩ := cell3 S4.out.ord
          obtain ⟨p0, p1, p2, p3, p4, p5, p6⟩ := cell3 S4.out.r1
          obtain ⟨q0, q1, q2, q3, q4, q5, q6⟩ := cell3 S4.out.r2
          have hz4 := S4.out.hz
          have hX4 := S4.out.hX
          have HF := fin6 S4.out.bel S4.out.own S4.out.r1 S4.out.r2 hs3 (.slice (some ⟨g, 0, none⟩) cs.length c2) (.int .i64 nx) (.bool false) (.int .i64 0) (.int .i64 a) (.int .i64 b')
          have HFb := fin6b S4.out.bel S4.out.own S4.out.r1 S4.out.r2 hs3 (.slice (some ⟨g, 0, none⟩) cs.length c2) (.int .i64 nx) (.bool false) (.int .i64 0) (.int .i64 a) (.int .i64 b')
          have G1 := gset3 (w := u4) (g := w.heap.size + 1) (.slice (some ⟨g, 0, none⟩) cs.length c2) (.int .i64 nx) (.bool false)
          have G2 := gset3 (w := u4) (g := w.heap.size + 1 + 1) (.int .i64 0) (.int .i64 a) (.int .i64 b')
          obtain ⟨i0, i1, i2, _, _, _, _⟩ := cell3 (gblk G1 S4.out.ord (by simp; omega))
          obtain ⟨_, _, _, i3, i4, i5, _⟩ := cell3 (gblk G1 S4.out.r2 (by simp))
          obtain ⟨l0, l1, l2, _, _, _, _⟩ := cell3 (gblk G2 HBX4.out (by simp; omega))
          obtain ⟨_, _, _, l3, l4, l5, _⟩ := cell3 (gblk G2 S4.out.r1 (by simp))
          unfold set6 at HF
          unfold set6b at HFb
          have HFF := Lib.hid HF
          have HFG := Lib.hid HFb
          obtain ⟨f0, f1, f2, _, _, _, _⟩ := cell3 HFF.out.2.2.1
          obtain ⟨g0, g1, g2, _, _, _, _⟩ := cell3 HFF.out.2.2.2
          obtain ⟨f0', f1', f2', _, _, _, _⟩ := cell3 HFG.out.2.2.1
          obtain ⟨g0', g1', g2', _, _, _, _⟩ := cell3 HFG.out.2.2.2
          clear HF HFb G1 G2
          go_region
          all_goals (try go_wp2)
          all_goals first
            | exact bodyPost_ret (v := .tuple #[.agg #[.slice (some ⟨g, 0, none⟩) cs.length c2, .int .i64 nx, .bool false], .agg #[.int .i64 0, .int .i64 a, .int .i64 b']]) (by simp [results, Try.results43, go_sem, f0, f1, f2, g0, g1, g2]) rfl (by rw [HG.out, HCO.out, HCS.out, HCD.out]; exact ⟨some ⟨g, 0, none⟩, c2, (by first | rfl | simp), HFF.out.1.drew, by simpa using hcc2, below_drew HFF.out.2.1⟩)
            | exact bodyPost_ret (v := .tuple #[.agg #[.slice (some ⟨g, 0, none⟩) cs.length c2, .int .i64 nx, .bool false], .agg #[.int .i64 0, .int .i64 a, .int .i64 b']]) (by simp [results, Try.results43, go_sem, f0', f1', f2', g0', g1', g2']) rfl (by rw [HG.out, HCO.out, HCS.out, HCD.out]; exact ⟨some ⟨g, 0, none⟩, c2, (by first | rfl | simp), HFG.out.1.drew, by simpa using hcc2, below_drew HFG.out.2.1⟩)
      · have HCO : Hid (corOrd ⟨cs, (k : Int), true⟩ os = ⟨0, 0, 0⟩) := rfl
        have HCS : Hid (corStep ⟨cs, (k : Int), true⟩ os clock = ⟨cs, (k : Int), true⟩) := rfl
        obtain ⟨p0, p1, p2, p3, p4, p5, p6⟩ := cell3 KRc.out
        obtain ⟨q0, q1, q2, q3, q4, q5, q6⟩ := cell3 KOc.out
        have HF := fin6 HBc.out RC.out.own KRc.out KOc.out hs3 (.slice A2 cs.length c2) (.int .i64 (k : Int)) (.bool true) (.int .i64 0) (.int .i64 0) (.int .i64 0)
        unfold set6 at HF
        have HFF := Lib.hid HF
        obtain ⟨f0, f1, f2, _, _, _, _⟩ := cell3 HFF.out.2.2.1
        obtain ⟨g0, g1, g2, _, _, _, _⟩ := cell3 HFF.out.2.2.2
        clear HF hp hob hl
        go_wp2
        exact bodyPost_ret (v := .tuple #[.agg #[.slice A2 cs.length c2, .int .i64 (k : Int), .bool true], .agg #[.int .i64 0, .int .i64 0, .int .i64 0]]) (by simp [results, Try.results43, go_sem, f0, f1, f2, g0, g1, g2]) rfl (by rw [HG.out, HCO.out, HCS.out]; exact ⟨A2, c2, rfl, HFF.out.1, hcc2, HFF.out.2.1⟩)
end Go.Proofs.Ytiodpnhokjkjaaa
