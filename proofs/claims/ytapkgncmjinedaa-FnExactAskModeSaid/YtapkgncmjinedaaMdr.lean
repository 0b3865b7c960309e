/- Modes that a call owns: the state of the draws. -/
import Derived.Test.YtapkgncmjinedaaMod
import Derived.Test.YtapkgncmjinedaaDrs
namespace Go.Proofs.Ytapkgncmjinedaa
open Go.RowKit Go.Sort

/-- Frames that are the call's own. -/
def OwnT (w : World) (base : Nat) (v : Value) (ts : List Tab) : Prop := Own eTab 33 w base v ts ∧ ∀ t, t ∈ ts → Own eSlt 96 w base (.slice t.A t.slots.length t.c) t.slots ∧ t.slots.length ≤ 20
theorem OwnT.pick {w w' : World} {base g : Nat} {v : Value} {ts : List Tab} (h : OwnT w base v ts) (hg : w.grownBy w' (some g)) (hlt : g < base) : OwnT w' base v ts :=
  ⟨h.1.kept hg (fun k hk => by cases hk; exact hlt), fun p hp => ⟨(h.2 p hp).1.kept hg (fun k hk => by cases hk; exact hlt), (h.2 p hp).2⟩⟩
theorem OwnT.alloc {w : World} {base : Nat} {v : Value} {ts : List Tab} (h : OwnT w base v ts) (o : Obj) : OwnT (w.alloc o) base v ts := ⟨h.1.alloc o, fun p hp => ⟨(h.2 p hp).1.alloc o, (h.2 p hp).2⟩⟩
theorem OwnT.rd {w : World} {base : Nat} {A : Option Addr} {n c : Nat} {ts : List Tab} (h : OwnT w base (.slice A n c) ts) : RdT w w.heap.size A ts :=
  ⟨h.1.rd, fun p hp => ⟨(h.2 p hp).1.rd, by have := (h.2 p hp).2; omega⟩⟩
theorem OwnT.none_ {w : World} {base : Nat} {A : Option Addr} : OwnT w base (.slice A 0 0) [] := ⟨Own.none_, fun p hp => by cases hp⟩
theorem OwnT.otherM {w w' : World} {base X : Nat} {v : Value} {ts : List Tab} (h : OwnT w base v ts) (hg : w.grownBy w' (some X)) {cur : Array Value} {fz : Nat × Nat} (hb : w.heap[X]? = some (.cells cur 25 fz)) : OwnT w' base v ts :=
  ⟨h.1.keptOther hg (fun k hk => by cases hk; exact .inr ⟨cur, _, _, hb, by decide⟩), fun p hp => ⟨(h.2 p hp).1.keptOther hg (fun k hk => by cases hk; exact .inr ⟨cur, _, _, hb, by decide⟩), (h.2 p hp).2⟩⟩
/-- Behind an append of one frame. -/
theorem OwnT.app {w w' : World} {base : Nat} {v v' : Value} {ts : List Tab} {p : Tab} {row : Option Nat} (h : OwnT w base v ts) (hp : Own eSlt 96 w base (.slice p.A p.slots.length p.c) p.slots) (hl : p.slots.length ≤ 20) (hown : Own eTab 33 w' base v' (ts ++ [p])) (hg : w.grownBy w' row)
    (hr : ∀ k, row = some k → base ≤ k ∧ v.ownBlock = some k ∧ ∃ cur, w.heap[k]? = some (.cells cur 33 (0, 0))) : OwnT w' base v' (ts ++ [p]) := by
  have hr' : ∀ k, row = some k → k < base ∨ ∃ cur t fz, w.heap[k]? = some (.cells cur t fz) ∧ t ≠ 96 := fun k hk => by
    obtain ⟨_, _, cur, h⟩ := hr k hk
    exact .inr ⟨cur, _, _, h, by decide⟩
  refine ⟨hown, fun q hq => ?_⟩
  rcases List.mem_append.1 hq with hq | hq
  · exact ⟨(h.2 q hq).1.keptOther hg hr', (h.2 q hq).2⟩
  · rw [List.mem_singleton] at hq
    subst hq
    exact ⟨hp.keptOther hg hr', hl⟩

/-- The reader, the box of the result, and the box of the modes. -/
structure MB (w : World) (g M X : Nat) (A : Option Addr) (c : Nat) (ts : List Tab) (now next : Int) (wx : World) : Prop where
  rdr : Rdr wx g M
  gr : w.grownBy wx (some g)
  res : wx.heap[w.heap.size]? = some (.cells #[.slice none 0 0, .int .i64 0, .int .i64 0] 25 (0, 0))
  box : wx.heap[X]? = some (.cells #[.slice A ts.length c, .int .i64 now, .int .i64 next] 25 (0, 0))
  own : OwnT wx w.heap.size (.slice A ts.length c) ts
  hg : g < w.heap.size
  hX : w.heap.size < X
section
variable {w wx w' : World} {g M M' X : Nat} {A A' : Option Addr} {c c' : Nat} {ts us : List Tab} {now next : Int}
theorem MB.step (s : MB w g M X A c ts now next wx) (hr : Rdr w' g M') (hg : wx.grownBy w' (some g)) : MB w g M' X A c ts now next w' := by
  have h1 := s.hg
  have h2 := s.hX
  exact ⟨hr, grown_trans' s.gr hg, gblk hg s.res (by simp; omega), gblk hg s.box (by simp; omega), s.own.pick hg h1, h1, h2⟩
theorem MB.alloc (s : MB w g M X A c ts now next wx) (o : Obj) : MB w g M X A c ts now next (wx.alloc o) := s.step (s.rdr.alloc o) (grown_alloc (World.grownBy.refl wx _) o)
theorem MB.drew (s : MB w g M X A c ts now next wx) : MB w g M X A c ts now next wx.drew := ⟨s.rdr, ⟨s.gr.os, s.gr.tape, s.gr.output, s.gr.size, s.gr.block⟩, s.res, s.box, s.own, s.hg, s.hX⟩
theorem MB.more (s : MB w g M X A c ts now next wx) (hM : M ≤ M') : MB w g M' X A c ts now next wx := ⟨s.rdr.more hM, s.gr, s.res, s.box, s.own, s.hg, s.hX⟩
theorem MB.setNow (s : MB w g M X A c ts now next wx) (v : Int) : MB w g M X A c ts v next (wx.setCell ⟨X, 1, none⟩ (.int .i64 v)) := by
  have h1 := s.hg
  have h2 := s.hX
  have G := gset (w := wx) (g := X) 1 (.int .i64 v)
  exact ⟨s.rdr.setNew (p := ⟨X, 1, none⟩) (by show g < X; omega) _, grown_setNew s.gr (p := ⟨X, 1, none⟩) (by show _ ≤ X; omega) _, gblk G s.res (by simp; omega), set3b s.box, s.own.otherM G s.box, h1, h2⟩
theorem MB.setNext (s : MB w g M X A c ts now next wx) (v : Int) : MB w g M X A c ts now v (wx.setCell ⟨X, 2, none⟩ (.int .i64 v)) := by
  have h1 := s.hg
  have h2 := s.hX
  have G := gset (w := wx) (g := X) 2 (.int .i64 v)
  exact ⟨s.rdr.setNew (p := ⟨X, 2, none⟩) (by show g < X; omega) _, grown_setNew s.gr (p := ⟨X, 2, none⟩) (by show _ ≤ X; omega) _, gblk G s.res (by simp; omega), set3c s.box, s.own.otherM G s.box, h1, h2⟩
theorem MB.setFrames (s : MB w g M X A c ts now next wx) (ho : OwnT wx w.heap.size (.slice A' us.length c') us) : MB w g M X A' c' us now next (wx.setCell ⟨X, 0, none⟩ (.slice A' us.length c')) := by
  have h1 := s.hg
  have h2 := s.hX
  have G := gset (w := wx) (g := X) 0 (.slice A' us.length c')
  exact ⟨s.rdr.setNew (p := ⟨X, 0, none⟩) (by show g < X; omega) _, grown_setNew s.gr (p := ⟨X, 0, none⟩) (by show _ ≤ X; omega) _, gblk G s.res (by simp; omega), set3a s.box, ho.otherM G s.box, h1, h2⟩
theorem MB.kept {row : Option Nat} {v : Value} (s : MB w g M X A c ts now next wx) (hg : wx.grownBy w' row)
    (hr : ∀ k, row = some k → w.heap.size ≤ k ∧ v.ownBlock = some k ∧ ∃ cur, wx.heap[k]? = some (.cells cur 33 (0, 0))) :
    w'.heap[X]? = some (.cells #[.slice A ts.length c, .int .i64 now, .int .i64 next] 25 (0, 0)) ∧ w'.heap[w.heap.size]? = some (.cells #[.slice none 0 0, .int .i64 0, .int .i64 0] 25 (0, 0)) ∧ Rdr w' g M ∧ w.grownBy w' (some g) := by
  have h1 := s.hg
  refine ⟨gblk hg s.box fun e => ?_, gblk hg s.res fun e => ?_, s.rdr.grown hg (fun k hk => by have := (hr k hk).1; omega), grown_new s.gr hg (fun k hk => (hr k hk).1)⟩
  · obtain ⟨_, _, cur, h⟩ := hr X e.symm
    rw [s.box] at h
    injection h with h; injection h with _ h; exact absurd h (by decide)
  · obtain ⟨_, _, cur, h⟩ := hr w.heap.size e.symm
    rw [s.res] at h
    injection h with h; injection h with _ h; exact absurd h (by decide)
/-- Behind an append to the frames and the store of it. -/
theorem MB.app {row : Option Nat} {v : Value} (s : MB w g M X A c ts now next wx) (hg : wx.grownBy w' row)
    (hr : ∀ k, row = some k → w.heap.size ≤ k ∧ v.ownBlock = some k ∧ ∃ cur, wx.heap[k]? = some (.cells cur 33 (0, 0)))
    (ho : OwnT w' w.heap.size (.slice A' us.length c') us) : MB w g M X A' c' us now next (w'.setCell ⟨X, 0, none⟩ (.slice A' us.length c')) := by
  have h1 := s.hg
  have h2 := s.hX
  obtain ⟨b, r, d, gr⟩ := s.kept hg hr
  have G := gset (w := w') (g := X) 0 (.slice A' us.length c')
  exact ⟨d.setNew (p := ⟨X, 0, none⟩) (by show g < X; omega) _, grown_setNew gr (p := ⟨X, 0, none⟩) (by show _ ≤ X; omega) _, gblk G r (by simp; omega), set3a b, ho.otherM G b, h1, h2⟩
theorem OwnT.store {base g n cap : Nat} {w : World} {ts : List Tab} {i : Nat} {x y : Tab} (h : OwnT w base (.slice (some ⟨g, 0, none⟩) n cap) ts) (hi : ts[i]? = some x) (hy : Own eSlt 96 w base (.slice y.A y.slots.length y.c) y.slots) (hl : y.slots.length ≤ 20) :
    OwnT (w.setCell ⟨g, i, none⟩ (.slice y.A y.slots.length y.c)) base (.slice (some ⟨g, 0, none⟩) n cap) (ts.set i y) := by
  have hne : ts ≠ [] := by intro e; simp [e] at hi
  obtain ⟨_, cur, hb⟩ := h.1.blk hne
  have hr' : ∀ k, some g = some k → k < base ∨ ∃ cur t fr, w.heap[k]? = some (.cells cur t fr) ∧ t ≠ 96 := fun k hk => by
    cases hk; exact .inr ⟨cur, _, _, hb, by decide⟩
  have h3 := h.1.set (E := eTab) (i := i) (j := 0) (x := x) (y := y) (u := .slice y.A y.slots.length y.c) hi (by decide) rfl
  refine ⟨by simpa using h3, fun q hq => ?_⟩
  rcases List.mem_or_eq_of_mem_set hq with hq | rfl
  · exact ⟨(h.2 q hq).1.keptOther (gset i _) hr', (h.2 q hq).2⟩
  · exact ⟨hy.keptOther (gset i _) hr', hl⟩
theorem MB.blk (s : MB w g M X A c ts now next wx) (hk : 0 < ts.length) : ∃ b, A = some ⟨b, 0, none⟩ ∧ w.heap.size ≤ b ∧ b < wx.heap.size ∧ wx.frozen? ⟨b, 0, none⟩ = false ∧ (∃ v, wx.cell? ⟨b, 0, none⟩ = some v) ∧ (∃ cur, wx.heap[b]? = some (.cells cur 33 (0, 0))) := by
  have hne : ts ≠ [] := by intro e; simp [e] at hk
  obtain ⟨A', c', hv, _, hA⟩ := s.own.1.form
  injection hv with hA'
  subst hA'
  obtain ⟨b, rfl, h1, h2⟩ := hA hne
  obtain ⟨bb, oo, hAA, _, e0⟩ := s.own.1.rd.at1 rfl hk rfl
  simp only [Option.some.injEq, Addr.mk.injEq, and_true] at hAA
  obtain ⟨rfl, rfl⟩ := hAA
  rw [Nat.zero_add] at e0
  exact ⟨b, rfl, h1, h2, s.own.1.frozen hne, ⟨_, e0⟩, (s.own.1.blk hne).2⟩
theorem MB.setRow {b : Nat} {y : Tab} (s : MB w g M X (some ⟨b, 0, none⟩) c ts now next wx) (hk : 0 < ts.length) (hy : Own eSlt 96 wx w.heap.size (.slice y.A y.slots.length y.c) y.slots) (hl : y.slots.length ≤ 20) :
    MB w g M X (some ⟨b, 0, none⟩) c (ts.set 0 y) now next (wx.setCell ⟨b, 0, none⟩ (.slice y.A y.slots.length y.c)) := by
  obtain ⟨b', hbb, h1, h2, _, _, cur, hcur⟩ := s.blk hk
  simp only [Option.some.injEq, Addr.mk.injEq, and_true] at hbb
  subst hbb
  have hbX : b ≠ X := fun e => by
    subst e
    have := s.box
    rw [hcur] at this
    injection this with this
    injection this with _ this
    exact absurd this (by decide)
  have hbR : w.heap.size ≠ b := fun e => by
    subst e
    have := s.res
    rw [hcur] at this
    injection this with this
    injection this with _ this
    exact absurd this (by decide)
  have h5 := s.hg
  exact ⟨s.rdr.setNew (p := ⟨b, 0, none⟩) (by show g < b; omega) _, grown_setNew s.gr (p := ⟨b, 0, none⟩) (by show _ ≤ b; omega) _, gblk (gset 0 _) s.res (by simp; omega), by rw [List.length_set]; exact gblk (gset 0 _) s.box (by simp; exact fun e => hbX e.symm), by rw [List.length_set]; exact s.own.store (List.getElem?_eq_getElem hk) hy hl, s.hg, s.hX⟩
end
/-- Behind three stores into a box of modes that stands at b. -/
theorem modes3 {w : World} {base b : Nat} {x y z v : Value} {ts : List Tab}
    (h : w.heap[b]? = some (.cells #[x, y, z] 25 (0, 0))) (u t r : Value) (ho : OwnT w base v ts) :
    OwnT (((w.setCell ⟨b, 0, none⟩ u).setCell ⟨b, 1, none⟩ t).setCell ⟨b, 2, none⟩ r) base v ts := ho.otherM (gset3 (w := w) (g := b) u t r) h
end Go.Proofs.Ytapkgncmjinedaa
