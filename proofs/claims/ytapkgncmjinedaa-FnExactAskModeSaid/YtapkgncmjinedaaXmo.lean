/- The state of the exact laws of modes: the argument's box, the three results' boxes, and what they hold. -/
import Derived.Test.YtapkgncmjinedaaExMm
namespace Go.Proofs.Ytapkgncmjinedaa
open Go.RowKit Go.Sort
theorem endFrame_map {ts us : List Tab} {now next p : Int} (h : us.map Tab.slots = ts.map Tab.slots) : endFrame us now next p = endFrame ts now next p := by
  unfold endFrame; rw [modOk_map h, h]
theorem askMode_map {ts us : List Tab} {now next p n : Int} (h : us.map Tab.slots = ts.map Tab.slots) : askMode us now next p n = askMode ts now next p n := by
  unfold askMode; rw [modOk_map h, h, map_len h]
theorem endFrame_len (ts : List Tab) (now next p : Int) : (endFrame ts now next p).1.length ≤ ts.length := by unfold endFrame; split <;> simp
theorem askMode_len (ts : List Tab) (now next p n : Int) : (askMode ts now next p n).1.length ≤ ts.length := by unfold askMode; split <;> simp
theorem own_cap {w : World} {base : Nat} {us : List Tab} (h : ∀ q, q ∈ us → Own eSlt 96 w base (.slice q.A q.slots.length q.c) q.slots) : ∀ q, q ∈ us → q.slots.length ≤ q.c := fun q hq => by
  obtain ⟨A', c', hv, hc, _⟩ := (h q hq).form
  injection hv with _ _ hv
  omega
theorem RdT.mono2 {w : World} {B B' : Nat} {A : Option Addr} {ts : List Tab} (h : RdT w B A ts) (hB : B ≤ B') : RdT w B' A ts := ⟨h.1.mono hB, fun p hp => ⟨(h.2 p hp).1.mono hB, (h.2 p hp).2⟩⟩
/-- What toModes left, read. -/
theorem tom_rd {w' : World} {base b : Nat} {n c : Nat} {us : List Tab} (ho : Own eTab 33 w' base (.slice (some ⟨b, 0, none⟩) n c) us) (hr : ∀ q, q ∈ us → Own eSlt 96 w' (b + 1) (.slice q.A q.slots.length q.c) q.slots) (hl : ∀ q, q ∈ us → q.slots.length ≤ 1048576) : RdT w' w'.heap.size (some ⟨b, 0, none⟩) us :=
  ⟨ho.rdN, fun q hq => ⟨(hr q hq).rd, hl q hq⟩⟩
theorem map_lens {ts us : List Tab} (h : us.map Tab.slots = ts.map Tab.slots) {n : Nat} (hl : ∀ t, t ∈ ts → t.slots.length ≤ n) : ∀ q, q ∈ us → q.slots.length ≤ n := fun q hq => by
  have h1 : q.slots ∈ us.map Tab.slots := List.mem_map.2 ⟨q, hq, rfl⟩
  rw [h] at h1
  obtain ⟨t, ht, e⟩ := List.mem_map.1 h1
  rw [← e]; exact hl t ht
/-- The argument's box at the end of the old memory; the reference's result (T6), the argument's copy (T7), the program's result (T8). -/
structure XS (w : World) (A : Option Addr) (c : Nat) (ts : List Tab) (now next : Int) (T6 T7 T8 : Nat) (A3 : Option Addr) (c3 : Nat) (vs : List Tab) (n3 m3 : Int) (b5 hi : Nat) (xs : List Tab) (A7 : Option Addr) (c7 : Nat) (gs : List Tab) (wx : World) : Prop where
  bel : Below w.heap.size w wx
  par : wx.heap[w.heap.size]? = some (.cells #[.slice A ts.length c, .int .i64 now, .int .i64 next] 59 (0, 0))
  k6 : wx.heap[T6]? = some (.cells #[.slice A3 vs.length c3, .int .i64 n3, .int .i64 m3] 25 (0, 0))
  k8 : wx.heap[T8]? = some (.cells #[.slice A7 gs.length c7, .int .i64 n3, .int .i64 m3] 25 (0, 0))
  r6 : RdT wx T6 A3 vs
  ord : w.heap.size < T6 ∧ T6 < b5 ∧ hi ≤ T7 ∧ T7 < T8 ∧ T6 < T7
/-- .. with the argument's copy and the program's result whole. -/
structure XF (w : World) (A : Option Addr) (c : Nat) (ts : List Tab) (now next : Int) (T6 T7 T8 : Nat) (A3 : Option Addr) (c3 : Nat) (vs : List Tab) (n3 m3 : Int) (b5 hi : Nat) (xs : List Tab) (A7 : Option Addr) (c7 : Nat) (gs : List Tab) (wx : World) : Prop where
  st : XS w A c ts now next T6 T7 T8 A3 c3 vs n3 m3 b5 hi xs A7 c7 gs wx
  k7 : wx.heap[T7]? = some (.cells #[.slice (some ⟨b5, 0, none⟩) xs.length xs.length, .int .i64 now, .int .i64 next] 25 (0, 0))
  x7 : RdT wx hi (some ⟨b5, 0, none⟩) xs
  w7 : ∀ q, q ∈ xs → Wr 2 wx (b5 + 1) hi q.A q.slots.length
  o8 : OwnT wx T7 (.slice A7 gs.length c7) gs
  r8 : RdT wx T8 A7 gs
section
variable {w wx w' u : World} {A A3 A7 : Option Addr} {c c3 c7 T6 T7 T8 b5 hi : Nat} {ts vs xs gs : List Tab} {now next n3 m3 : Int}
theorem XS.keep (s : XS w A c ts now next T6 T7 T8 A3 c3 vs n3 m3 b5 hi xs A7 c7 gs wx) (hb : Below wx.heap.size wx w') : XS w A c ts now next T6 T7 T8 A3 c3 vs n3 m3 b5 hi xs A7 c7 gs w' :=
  ⟨bel_trans s.bel hb, blkc s.par hb, blkc s.k6 hb, blkc s.k8 hb, s.r6.below (hb.mono (by have := (Array.getElem?_eq_some_iff.1 s.k6).1; omega)), s.ord⟩
theorem XF.keep (s : XF w A c ts now next T6 T7 T8 A3 c3 vs n3 m3 b5 hi xs A7 c7 gs wx) (hb : Below wx.heap.size wx w') : XF w A c ts now next T6 T7 T8 A3 c3 vs n3 m3 b5 hi xs A7 c7 gs w' := by
  have h8 := (Array.getElem?_eq_some_iff.1 s.st.k8).1
  have ho := s.st.ord
  exact ⟨s.st.keep hb, blkc s.k7 hb, s.x7.below (hb.mono (by omega)), fun q hq => (s.w7 q hq).below hb (by omega), s.o8.next hb, s.r8.below (hb.mono (by omega))⟩
/-- Behind the marks of the argument's copy. -/
theorem XF.mark (s : XF w A c ts now next T6 T7 T8 A3 c3 vs n3 m3 b5 hi xs A7 c7 gs wx) (hb : Below wx.heap.size wx u) (hm : Mk (b5 + 1) hi u w') :
    XS w A c ts now next T6 T7 T8 A3 c3 vs n3 m3 b5 hi xs A7 c7 gs w' ∧ OwnT w' T7 (.slice A7 gs.length c7) gs ∧ RdT w' T8 A7 gs := by
  have k := s.keep hb
  have o := k.st.ord
  refine ⟨⟨k.st.bel.trans (hm.below (by omega)), (hm.block _ (.inl (by omega))).trans k.st.par, (hm.block _ (.inl (by omega))).trans k.st.k6, (hm.block _ (.inr (by omega))).trans k.st.k8, k.st.r6.below (hm.below (by omega)), o⟩, ?_, ?_⟩
  · exact ⟨hm.own k.o8.1 o.2.2.1, fun p hp => ⟨hm.own (k.o8.2 p hp).1 o.2.2.1, (k.o8.2 p hp).2⟩⟩
  · have low : ∀ {α : Type} {E : Enc α} {e : TypeId} {B : Option Addr} {n c : Nat} {ys : List α}, Own E e u T7 (.slice B n c) ys → Rd E u T8 B ys → Rd E w' T8 B ys := fun {α E e B n c ys} ho hr hne => by
      obtain ⟨b, off, hA, hlt, hcell⟩ := hr hne
      obtain ⟨A', c', hv, _, hA'⟩ := ho.form
      injection hv with hv
      obtain ⟨g, hg, h1, _⟩ := hA' hne
      rw [hv, hg] at hA
      simp only [Option.some.injEq, Addr.mk.injEq] at hA
      refine ⟨b, off, by rw [hv, hg]; simp only [Option.some.injEq, Addr.mk.injEq]; exact hA, hlt, fun i x hi j v hj => ?_⟩
      rw [← hcell i x hi j v hj]
      exact World.cell?_of_block (hm.block b (.inr (by omega)))
    exact ⟨low k.o8.1 k.r8.1, fun p hp => ⟨low (k.o8.2 p hp).1 (k.r8.2 p hp).1, (k.r8.2 p hp).2⟩⟩
/-- Behind the marks of the program's result. -/
theorem XS.mark (s : XS w A c ts now next T6 T7 T8 A3 c3 vs n3 m3 b5 hi xs A7 c7 gs wx) (hb : Below wx.heap.size wx u) (hm : Mk T7 T8 u w') :
    XS w A c ts now next T6 T7 T8 A3 c3 vs n3 m3 b5 hi xs A7 c7 gs w' := by
  have k := s.keep hb
  have o := k.ord
  exact ⟨k.bel.trans (hm.below (by omega)), (hm.block _ (.inl (by omega))).trans k.par, (hm.block _ (.inl (by omega))).trans k.k6, (hm.block _ (.inr (by omega))).trans k.k8, k.r6.below (hm.below (by omega)), o⟩
end
end Go.Proofs.Ytapkgncmjinedaa
