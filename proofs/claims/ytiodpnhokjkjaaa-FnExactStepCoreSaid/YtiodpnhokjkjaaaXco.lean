/- The state of the exact laws of cores: the argument's box, the results' boxes, and what they hold. -/
import Derived.Test.YtiodpnhokjkjaaaExCore
import Derived.Test.YtiodpnhokjkjaaaExOrder
import Derived.Test.YtiodpnhokjkjaaaCom
import Derived.Test.YtiodpnhokjkjaaaCou
namespace Go.Proofs.Ytiodpnhokjkjaaa
open Go.RowKit Go.Sort
theorem runCore_len (cr : Cor) (os : List Ord3) (cells steps : Int) : (runCore cr os cells steps).cs.length ≤ cr.cs.length := by
  unfold runCore; split
  · rename_i h
    rw [Bool.and_eq_true] at h
    rw [corRun_len h.1]; exact Nat.le_refl _
  · simp
theorem stepRes_len (cr : Cor) (os : List Ord3) (cells clock : Int) : (stepRes cr os cells clock).1.cs.length ≤ cr.cs.length := by
  unfold stepRes; split
  · rename_i h
    rw [Bool.and_eq_true] at h
    show (corStep cr os clock).cs.length ≤ _
    unfold corStep; split
    · exact Nat.le_refl _
    · unfold corDo
      repeat' split
      all_goals simp
  · simp
/-- The argument's box, the boxes of the results (an instruction's box lies behind the core's), what the reference's result holds. -/
structure CS (w : World) (A : Option Addr) (c : Nat) (cr : Cor) (os : List Ord3) (T6 T7 T8 L7 H1 bo : Nat) (A3 : Option Addr) (c3 : Nat) (V : Cor) (O : Option Ord3) (A5 : Option Addr) (c5 : Nat) (A7 : Option Addr) (c7 : Nat) (wx : World) : Prop where
  bel : Below w.heap.size w wx
  par : wx.heap[w.heap.size]? = some (.cells #[.slice A cr.cs.length c, .int .i64 cr.at', .bool cr.stop] 43 (0, 0))
  k6 : wx.heap[T6]? = some (.cells #[.slice A3 V.cs.length c3, .int .i64 V.at', .bool V.stop] 33 (0, 0))
  k8 : wx.heap[T8]? = some (.cells #[.slice A7 V.cs.length c7, .int .i64 V.at', .bool V.stop] 33 (0, 0))
  k6o : ∀ o, O = some o → wx.heap[T6 + 1]? = some (.cells #[.int .i64 o.op, .int .i64 o.a, .int .i64 o.b] 41 (0, 0))
  k8o : ∀ o, O = some o → wx.heap[T8 + 1]? = some (.cells #[.int .i64 o.op, .int .i64 o.a, .int .i64 o.b] 41 (0, 0))
  r6 : Rd eInt wx T6 A3 V.cs
  ord : w.heap.size < T6 ∧ T6 < L7 ∧ (∀ o, O = some o → T6 + 1 < L7) ∧ L7 ≤ T7 ∧ T7 < H1 ∧ H1 ≤ T8
/-- .. with the program's result whole, and the copy of the instructions to be written. -/
structure CM (w : World) (A : Option Addr) (c : Nat) (cr : Cor) (os : List Ord3) (T6 T7 T8 L7 H1 bo : Nat) (A3 : Option Addr) (c3 : Nat) (V : Cor) (O : Option Ord3) (A5 : Option Addr) (c5 : Nat) (A7 : Option Addr) (c7 : Nat) (wx : World) : Prop where
  st : CS w A c cr os T6 T7 T8 L7 H1 bo A3 c3 V O A5 c5 A7 c7 wx
  o8 : Own eInt 3 wx H1 (.slice A7 V.cs.length c7) V.cs
  r8 : Rd eInt wx T8 A7 V.cs
  wo : Wr 3 wx L7 H1 (some ⟨bo, 0, none⟩) os.length
/-- .. with the argument's copies whole. -/
structure CF (w : World) (A : Option Addr) (c : Nat) (cr : Cor) (os : List Ord3) (T6 T7 T8 L7 H1 bo : Nat) (A3 : Option Addr) (c3 : Nat) (V : Cor) (O : Option Ord3) (A5 : Option Addr) (c5 : Nat) (A7 : Option Addr) (c7 : Nat) (wx : World) : Prop where
  cm : CM w A c cr os T6 T7 T8 L7 H1 bo A3 c3 V O A5 c5 A7 c7 wx
  k7 : wx.heap[T7]? = some (.cells #[.slice A5 cr.cs.length c5, .int .i64 cr.at', .bool cr.stop] 33 (0, 0))
  x7 : Rd eInt wx T7 A5 cr.cs
  w7 : Wr 1 wx L7 T7 A5 cr.cs.length
  xo : Rd eOrd wx H1 (some ⟨bo, 0, none⟩) os
section
variable {w wx w' u : World} {A A3 A5 A7 : Option Addr} {c c3 c5 c7 T6 T7 T8 L7 H1 bo : Nat} {cr V : Cor} {os : List Ord3} {O : Option Ord3}
theorem CS.keep (s : CS w A c cr os T6 T7 T8 L7 H1 bo A3 c3 V O A5 c5 A7 c7 wx) (hb : Below wx.heap.size wx w') : CS w A c cr os T6 T7 T8 L7 H1 bo A3 c3 V O A5 c5 A7 c7 w' :=
  ⟨bel_trans s.bel hb, blkc s.par hb, blkc s.k6 hb, blkc s.k8 hb, fun o h => blkc (s.k6o o h) hb, fun o h => blkc (s.k8o o h) hb, s.r6.below (hb.mono (by have := (Array.getElem?_eq_some_iff.1 s.k6).1; omega)), s.ord⟩
theorem CM.keep (s : CM w A c cr os T6 T7 T8 L7 H1 bo A3 c3 V O A5 c5 A7 c7 wx) (hb : Below wx.heap.size wx w') : CM w A c cr os T6 T7 T8 L7 H1 bo A3 c3 V O A5 c5 A7 c7 w' := by
  have h8 := (Array.getElem?_eq_some_iff.1 s.st.k8).1
  have o := s.st.ord
  exact ⟨s.st.keep hb, s.o8.next hb, s.r8.below (hb.mono (by omega)), s.wo.below hb (by omega)⟩
theorem CF.keep (s : CF w A c cr os T6 T7 T8 L7 H1 bo A3 c3 V O A5 c5 A7 c7 wx) (hb : Below wx.heap.size wx w') : CF w A c cr os T6 T7 T8 L7 H1 bo A3 c3 V O A5 c5 A7 c7 w' := by
  have h8 := (Array.getElem?_eq_some_iff.1 s.cm.st.k8).1
  have o := s.cm.st.ord
  exact ⟨s.cm.keep hb, blkc s.k7 hb, s.x7.below (hb.mono (by omega)), s.w7.below hb (by omega), s.xo.below (hb.mono (by omega))⟩
/-- Behind marks of the argument's copies. -/
theorem CM.mark (s : CM w A c cr os T6 T7 T8 L7 H1 bo A3 c3 V O A5 c5 A7 c7 wx) (hm : Mk L7 H1 wx w') : CM w A c cr os T6 T7 T8 L7 H1 bo A3 c3 V O A5 c5 A7 c7 w' := by
  have o := s.st.ord
  refine ⟨⟨s.st.bel.trans (hm.below (by omega)), (hm.block _ (.inl (by omega))).trans s.st.par, (hm.block _ (.inl (by omega))).trans s.st.k6, (hm.block _ (.inr (by omega))).trans s.st.k8, fun q h => (hm.block _ (.inl (by have := o.2.2.1 q h; omega))).trans (s.st.k6o q h), fun q h => (hm.block _ (.inr (by omega))).trans (s.st.k8o q h), s.st.r6.below (hm.below (by omega)), o⟩, hm.own s.o8 (Nat.le_refl _), ?_, s.wo.mk hm⟩
  intro hne
  obtain ⟨b, off, hA, hlt, hcell⟩ := s.r8 hne
  obtain ⟨A', c', hv, _, hA'⟩ := s.o8.form
  injection hv with hv
  obtain ⟨g, hg, h1, _⟩ := hA' hne
  rw [hv, hg] at hA
  simp only [Option.some.injEq, Addr.mk.injEq] at hA
  refine ⟨b, off, by rw [hv, hg]; simp only [Option.some.injEq, Addr.mk.injEq]; exact hA, hlt, fun i x hi j v hj => ?_⟩
  rw [← hcell i x hi j v hj]
  exact World.cell?_of_block (hm.block b (.inr (by omega)))
/-- Behind the marks of the program's result. -/
theorem CS.mark (s : CS w A c cr os T6 T7 T8 L7 H1 bo A3 c3 V O A5 c5 A7 c7 wx) (hb : Below wx.heap.size wx u) (hm : Mk H1 T8 u w') : CS w A c cr os T6 T7 T8 L7 H1 bo A3 c3 V O A5 c5 A7 c7 w' := by
  have k := s.keep hb
  have o := k.ord
  exact ⟨k.bel.trans (hm.below (by omega)), (hm.block _ (.inl (by omega))).trans k.par, (hm.block _ (.inl (by omega))).trans k.k6, (hm.block _ (.inr (by omega))).trans k.k8, fun q h => (hm.block _ (.inl (by have := o.2.2.1 q h; omega))).trans (k.k6o q h), fun q h => (hm.block _ (.inr (by omega))).trans (k.k8o q h), k.r6.below (hm.below (by omega)), o⟩
end
end Go.Proofs.Ytiodpnhokjkjaaa
