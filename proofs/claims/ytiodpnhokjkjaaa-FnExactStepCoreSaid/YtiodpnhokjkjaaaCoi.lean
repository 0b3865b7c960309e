/- Steps of the program's cores, for every input. -/
import Derived.Test.YtiodpnhokjkjaaaCoa
import Derived.Test.YtiodpnhokjkjaaaLib
import Derived.StillTailTactics
namespace Go.Proofs.Ytiodpnhokjkjaaa
open Go.RowKit Go.Sort

/-- A core in a box, its cells of the call's own, the result's box and the instruction's box. -/
structure STC (w : World) (X B0 base : Nat) (A : Option Addr) (c : Nat) (at' : Int) (st : Bool) (cs : List Int) (z : Nat) (o : Ord3) (wx : World) : Prop where
  bel : Below B0 w wx
  box : wx.heap[X]? = some (.cells #[.slice A cs.length c, .int .i64 at', .bool st] 33 (0, 0))
  own : Own eInt 3 wx base (.slice A cs.length c) cs
  res : wx.heap[w.heap.size]? = some (.cells #[.int .i64 0, .int .i64 0, .int .i64 0] 41 (0, 0))
  ord : wx.heap[z]? = some (.cells #[.int .i64 o.op, .int .i64 o.a, .int .i64 o.b] 41 (0, 0))
  hX : B0 ≤ X
  hb : B0 ≤ base
  hz : w.heap.size < z
section
variable {w wx : World} {X B0 base z : Nat} {A : Option Addr} {c : Nat} {at' : Int} {st : Bool} {cs : List Int} {o : Ord3}
/-- A cell of the core is written. -/
theorem STC.setc {g : Nat} {i : Nat} (s : STC w X B0 base (some ⟨g, 0, none⟩) c at' st cs z o wx) (hi : i < cs.length) (v : Int) : STC w X B0 base (some ⟨g, 0, none⟩) c at' st (cs.set i v) z o (wx.setCell ⟨g, i, none⟩ (.int .i64 v)) := by
  have hne : cs ≠ [] := by intro e; simp [e] at hi
  obtain ⟨hg1, cur, hg2⟩ := s.own.blk hne
  have ne : ∀ (b : Nat) (cs' : Array Value) (T : TypeId), wx.heap[b]? = some (.cells cs' T (0, 0)) → T ≠ 3 → b ≠ g := fun b cs' T hb hT e => by
    subst e; rw [hg2] at hb; injection hb with hb; injection hb with _ hb; exact hT hb.symm
  refine ⟨s.bel.setCell (p := ⟨g, i, none⟩) (Nat.le_trans s.hb hg1) _, ?_, ?_, blko s.res _ (ne _ _ _ s.res (by decide)), blko s.ord _ (ne _ _ _ s.ord (by decide)), s.hX, s.hb, s.hz⟩
  · rw [List.length_set]; exact blko s.box _ (ne _ _ _ s.box (by decide))
  · rw [List.length_set]
    have := s.own.set (i := i) (j := 0) (x := cs[i]) (y := v) (u := .int .i64 v) (List.getElem?_eq_getElem hi) (by decide) rfl
    simpa using this
theorem STC.drew (s : STC w X B0 base A c at' st cs z o wx) : STC w X B0 base A c at' st cs z o wx.drew := ⟨s.bel.drew, s.box, s.own, s.res, s.ord, s.hX, s.hb, s.hz⟩
theorem STC.drewN (s : STC w X B0 base A c at' st cs z o wx) (n : Nat) : STC w X B0 base A c at' st cs z o (wx.drewN n) := ⟨below_drewN s.bel n, s.box, s.own, s.res, s.ord, s.hX, s.hb, s.hz⟩
theorem STC.at (s : STC w X B0 base A c at' st cs z o wx) (nx : Int) (hXw : X < w.heap.size) : STC w X B0 base A c nx st cs z o (wx.setCell ⟨X, 1, none⟩ (.int .i64 nx)) := by
  have hz := s.hz
  exact ⟨s.bel.setCell (p := ⟨X, 1, none⟩) s.hX _, set3b s.box, s.own.keptOther (gset 1 _) (fun k hk => by cases hk; exact .inr ⟨_, _, _, s.box, by decide⟩), blko s.res _ (by show w.heap.size ≠ X; omega), blko s.ord _ (by show z ≠ X; omega), s.hX, s.hb, s.hz⟩
theorem STC.halt (s : STC w X B0 base A c at' st cs z o wx) (hXw : X < w.heap.size) : STC w X B0 base A c at' true cs z o (wx.setCell ⟨X, 2, none⟩ (.bool true)) := by
  have hz := s.hz
  exact ⟨s.bel.setCell (p := ⟨X, 2, none⟩) s.hX _, set3c s.box, s.own.keptOther (gset 2 _) (fun k hk => by cases hk; exact .inr ⟨_, _, _, s.box, by decide⟩), blko s.res _ (by show w.heap.size ≠ X; omega), blko s.ord _ (by show z ≠ X; omega), s.hX, s.hb, s.hz⟩
/-- The instruction is stored as the result. -/
theorem STC.fin (s : STC w X B0 base A c at' st cs z o wx) (hXw : X < w.heap.size) (h2 : B0 ≤ w.heap.size) (u v t : Value) :
    (((wx.setCell ⟨w.heap.size, 0, none⟩ u).setCell ⟨w.heap.size, 1, none⟩ v).setCell ⟨w.heap.size, 2, none⟩ t).heap[X]? = some (.cells #[.slice A cs.length c, .int .i64 at', .bool st] 33 (0, 0)) ∧ Own eInt 3 (((wx.setCell ⟨w.heap.size, 0, none⟩ u).setCell ⟨w.heap.size, 1, none⟩ v).setCell ⟨w.heap.size, 2, none⟩ t) base (.slice A cs.length c) cs ∧ Below B0 w (((wx.setCell ⟨w.heap.size, 0, none⟩ u).setCell ⟨w.heap.size, 1, none⟩ v).setCell ⟨w.heap.size, 2, none⟩ t) :=
  ⟨gblk (gset3 _ _ _) s.box (by simp; omega), s.own.keptOther (gset3 _ _ _) (fun k hk => by cases hk; exact .inr ⟨_, _, _, s.res, by decide⟩), bset3 s.bel h2 _ _ _⟩
end
/-- What a step leaves. -/
def StepRes (w : World) (X B0 base : Nat) (A : Option Addr) (c : Nat) (cr : Cor) (os : List Ord3) (clock : Int) (e : Ending) (w' : World) : Prop :=
  e = .returned (corOrd cr os).val ∧ w'.heap[X]? = some (.cells #[.slice A (corStep cr os clock).cs.length c, .int .i64 (corStep cr os clock).at', .bool (corStep cr os clock).stop] 33 (0, 0)) ∧ Own eInt 3 w' base (.slice A (corStep cr os clock).cs.length c) (corStep cr os clock).cs ∧ Below B0 w w'
set_option maxRecDepth 100000 in
set_option maxHeartbeats 3200000 in
theorem callStep1 (X B0 base Bo : Nat) (A : Option Addr) (c : Nat) (cr : Cor) (Ao : Option Addr) (co : Nat) (os : List Ord3) (cells clock : Int) (w : World) (hX : w.heap[X]? = some (.cells #[.slice A cr.cs.length c, .int .i64 cr.at', .bool cr.stop] 33 (0, 0))) (hown : Own eInt 3 w base (.slice A cr.cs.length c) cr.cs)
    (hok : coreB cr os cells = true) (_hck : 0 ≤ clock) (h0 : B0 ≤ X) (h1 : B0 ≤ base) (h2 : B0 ≤ w.heap.size) (hBo : Bo ≤ B0) (hr : Rd eOrd w Bo Ao os) (hst : cr.stop = false) (hopx : (ordAt os cr.at').op = 1) :
    Calls Try.prog 57 #[.pointer (some ⟨X, 0, none⟩), .slice Ao os.length co, .int .i64 clock] w (StepRes w X B0 base A c cr os clock) := by
  obtain ⟨hp, hl, ⟨ha0, ha1⟩, hv⟩ := coreB_iff.1 hok
  obtain ⟨⟨hn0, hn1⟩, ⟨hc0, hc1⟩, _⟩ := progB_iff.1 hp
  obtain ⟨k, hk⟩ := Int.eq_ofNat_of_zero_le ha0
  have hkl : k < os.length := by omega
  have hob := (ordAt_ok hp ha0 ha1).1
  have hXw := (cell3 hX).2.2.2.2.2.2
  obtain ⟨cs, at0, st⟩ := cr
  simp only at hst
  subst hst
  simp only at hX hown hl ha0 ha1 hv hk hob hopx
  subst hk
  have HCO : Hid (corOrd ⟨cs, (k : Int), false⟩ os = ordAt os k) := rfl
  have HCS : Hid (corStep ⟨cs, (k : Int), false⟩ os clock = corDo ⟨cs, (k : Int), false⟩ os clock (ordAt os k)) := rfl
  have HOA := Lib.hid (ordAt_get hkl)
  obtain ⟨b, off, rfl, hbB, o1, o2, o3⟩ := hr.at3 rfl hkl rfl
  rw [← HOA.out] at o1 o2 o3
  obtain ⟨o, ho⟩ : ∃ o, o = ordAt os (k : Int) := ⟨_, rfl⟩
  rw [← ho] at HCO HCS hob o1 o2 o3 hopx
  clear ho HOA
  obtain ⟨op, a, b'⟩ := o
  simp only at o1 o2 o3 hopx
  subst hopx
  obtain ⟨x0, x1, x2, x3, x4, x5, x6⟩ := cell3 hX
  have HX := Lib.hid hX
  have HO := Lib.hid hown
  have hbw : b < w.heap.size := by omega
  clear hX hown hok hp
  go_enter Try.func57, Try.ntmps57
  go_upto_region 5 with (fail)
  have S0 : Hid (STC w X B0 base A c (k : Int) false cs (w.heap.size + 1) ⟨1, a, b'⟩ ((w.alloc (.cells #[.int .i64 0, .int .i64 0, .int .i64 0] 41)).alloc (.cells #[.int .i64 1, .int .i64 a, .int .i64 b'] 41))) :=
    ⟨(below2 _ _ _).mono h2, blkc HX.out (below2 _ _ _), HO.out.next (below2 _ _ _), alloc_at0 _ _ _, alloc_at1 _ _ _, h0, h1, Nat.lt_succ_self _⟩
  obtain ⟨u, hu⟩ : ∃ u, u = ((w.alloc (.cells #[.int .i64 0, .int .i64 0, .int .i64 0] 41)).alloc (.cells #[.int .i64 1, .int .i64 a, .int .i64 b'] 41)) := ⟨_, rfl⟩
  rw [← hu] at S0 ⊢
  clear hu x0 x1 x2 x3 x4 x5 x6 HX HO o1 o2 o3
  obtain ⟨nx, hnx⟩ : ∃ nx, nx = ((k : Int) + 1) % (os.length : Int) := ⟨_, rfl⟩
  rw [← hnx]
  have HNX := Lib.hid hnx
  clear hnx
  obtain ⟨x0, x1, x2, x3, x4, x5, x6⟩ := cell3 S0.out.box
  obtain ⟨z0, z1, z2, z3, z4, z5, z6⟩ := cell3 S0.out.ord
  have hcl : 0 < cs.length := by omega
  have hcne : cs ≠ [] := by intro e; simp [e] at hcl
  obtain ⟨A', c', hA, _, hgg⟩ := S0.out.own.form
  injection hA with hA1 hA2 hA3
  subst hA1 hA3
  obtain ⟨g, rfl, hg1, hg2⟩ := hgg hcne
  clear hA2 hgg
  have HOB := Lib.hid hob
  have HFR := Lib.hid (fun i => S0.out.own.frozen (o := i) hcne)
  have HCE := Lib.hid (fun i (hi : i < cs.length) => S0.out.own.rd.at1 rfl hi rfl)
  clear hob hcne
  have habi := ordB_a HOB.out (.inl rfl)
  simp only at habi
  obtain ⟨i, rfl⟩ := Int.eq_ofNat_of_zero_le habi.1
  have hic : i < cs.length := by omega
  have hi1 : (i : Int) < (cs.length : Int) := by omega
  have hi0 : (0 : Int) ≤ (i : Int) := by omega
  have hfr := HFR.out i
  obtain ⟨_, _, hA, _, hcei⟩ := HCE.out i hic
  simp only [Option.some.injEq, Addr.mk.injEq, and_true] at hA
  obtain ⟨rfl, rfl⟩ := hA
  rw [Nat.zero_add] at hcei
  have HCD : Hid (corDo ⟨cs, (k : Int), false⟩ os clock ⟨1, (i : Int), b'⟩ = ⟨cs.set i b', nx, false⟩) := by show _ = _; rw [HNX.out]; rfl
  go_upto_region 7 with (fail)
  go_region
  clear hcei hfr
  have S1a := Lib.hid (S0.out.setc hic b').drew
  obtain ⟨u1, hu1⟩ : ∃ u1, u1 = (u.setCell ⟨g, i, none⟩ (.int .i64 b')).drew := ⟨_, rfl⟩
  rw [← hu1] at S1a ⊢
  have S1 := S1a
  clear hu1
  have S2 := Lib.hid (S1.out.at nx hXw)
  have HF := Lib.hid (S2.out.fin hXw h2 (.int .i64 1) (.int .i64 (i : Int)) (.int .i64 b'))
  clear x0 x1 x2 x3 x4 x5 x6 z0 z1 z2 z3 z4 z5 z6
  obtain ⟨x0, x1, x2, x3, x4, x5, x6⟩ := cell3 S1.out.box
  obtain ⟨z0, z1, z2, z3, z4, z5, z6⟩ := cell3 S2.out.ord
  obtain ⟨w0', w1', w2', w3', w4', w5', w6'⟩ := cell3 S1.out.ord
  obtain ⟨y0, y1, y2, y3, y4, y5, y6⟩ := cell3 S2.out.res
  obtain ⟨s0, s1, s2⟩ := res3 S2.out.res (.int .i64 1) (.int .i64 (i : Int)) (.int .i64 b')
  go_wp2
  exact bodyPost_ret (v := .agg #[.int .i64 1, .int .i64 (i : Int), .int .i64 b']) (by simp [results, Try.results57, go_sem, s0, s1, s2]) rfl ⟨by rw [HCO.out], by rw [HCS.out, HCD.out]; exact HF.out.1, by rw [HCS.out, HCD.out]; exact HF.out.2.1, HF.out.2.2⟩
set_option maxRecDepth 100000 in
set_option maxHeartbeats 3200000 in
theorem callStep3 (X B0 base Bo : Nat) (A : Option Addr) (c : Nat) (cr : Cor) (Ao : Option Addr) (co : Nat) (os : List Ord3) (cells clock : Int) (w : World) (hX : w.heap[X]? = some (.cells #[.slice A cr.cs.length c, .int .i64 cr.at', .bool cr.stop] 33 (0, 0))) (hown : Own eInt 3 w base (.slice A cr.cs.length c) cr.cs)
    (hok : coreB cr os cells = true) (_hck : 0 ≤ clock) (h0 : B0 ≤ X) (h1 : B0 ≤ base) (h2 : B0 ≤ w.heap.size) (hBo : Bo ≤ B0) (hr : Rd eOrd w Bo Ao os) (hst : cr.stop = false) (hopx : (ordAt os cr.at').op = 3) :
    Calls Try.prog 57 #[.pointer (some ⟨X, 0, none⟩), .slice Ao os.length co, .int .i64 clock] w (StepRes w X B0 base A c cr os clock) := by
  obtain ⟨hp, hl, ⟨ha0, ha1⟩, hv⟩ := coreB_iff.1 hok
  obtain ⟨⟨hn0, hn1⟩, ⟨hc0, hc1⟩, _⟩ := progB_iff.1 hp
  obtain ⟨k, hk⟩ := Int.eq_ofNat_of_zero_le ha0
  have hkl : k < os.length := by omega
  have hob := (ordAt_ok hp ha0 ha1).1
  have hXw := (cell3 hX).2.2.2.2.2.2
  obtain ⟨cs, at0, st⟩ := cr
  simp only at hst
  subst hst
  simp only at hX hown hl ha0 ha1 hv hk hob hopx
  subst hk
  have HCO : Hid (corOrd ⟨cs, (k : Int), false⟩ os = ordAt os k) := rfl
  have HCS : Hid (corStep ⟨cs, (k : Int), false⟩ os clock = corDo ⟨cs, (k : Int), false⟩ os clock (ordAt os k)) := rfl
  have HOA := Lib.hid (ordAt_get hkl)
  obtain ⟨b, off, rfl, hbB, o1, o2, o3⟩ := hr.at3 rfl hkl rfl
  rw [← HOA.out] at o1 o2 o3
  obtain ⟨o, ho⟩ : ∃ o, o = ordAt os (k : Int) := ⟨_, rfl⟩
  rw [← ho] at HCO HCS hob o1 o2 o3 hopx
  clear ho HOA
  obtain ⟨op, a, b'⟩ := o
  simp only at o1 o2 o3 hopx
  subst hopx
  obtain ⟨x0, x1, x2, x3, x4, x5, x6⟩ := cell3 hX
  have HX := Lib.hid hX
  have HO := Lib.hid hown
  have hbw : b < w.heap.size := by omega
  clear hX hown hok hp
  go_enter Try.func57, Try.ntmps57
  go_upto_region 5 with (fail)
  have S0 : Hid (STC w X B0 base A c (k : Int) false cs (w.heap.size + 1) ⟨3, a, b'⟩ ((w.alloc (.cells #[.int .i64 0, .int .i64 0, .int .i64 0] 41)).alloc (.cells #[.int .i64 3, .int .i64 a, .int .i64 b'] 41))) :=
    ⟨(below2 _ _ _).mono h2, blkc HX.out (below2 _ _ _), HO.out.next (below2 _ _ _), alloc_at0 _ _ _, alloc_at1 _ _ _, h0, h1, Nat.lt_succ_self _⟩
  obtain ⟨u, hu⟩ : ∃ u, u = ((w.alloc (.cells #[.int .i64 0, .int .i64 0, .int .i64 0] 41)).alloc (.cells #[.int .i64 3, .int .i64 a, .int .i64 b'] 41)) := ⟨_, rfl⟩
  rw [← hu] at S0 ⊢
  clear hu x0 x1 x2 x3 x4 x5 x6 HX HO o1 o2 o3
  obtain ⟨nx, hnx⟩ : ∃ nx, nx = ((k : Int) + 1) % (os.length : Int) := ⟨_, rfl⟩
  rw [← hnx]
  have HNX := Lib.hid hnx
  clear hnx
  obtain ⟨x0, x1, x2, x3, x4, x5, x6⟩ := cell3 S0.out.box
  obtain ⟨z0, z1, z2, z3, z4, z5, z6⟩ := cell3 S0.out.ord
  have hcl : 0 < cs.length := by omega
  have hcne : cs ≠ [] := by intro e; simp [e] at hcl
  obtain ⟨A', c', hA, _, hgg⟩ := S0.out.own.form
  injection hA with hA1 hA2 hA3
  subst hA1 hA3
  obtain ⟨g, rfl, hg1, hg2⟩ := hgg hcne
  clear hA2 hgg
  have HOB := Lib.hid hob
  have HFR := Lib.hid (fun i => S0.out.own.frozen (o := i) hcne)
  have HCE := Lib.hid (fun i (hi : i < cs.length) => S0.out.own.rd.at1 rfl hi rfl)
  clear hob hcne
  have habi := ordB_a HOB.out (.inr (.inr (.inl rfl)))
  simp only at habi
  obtain ⟨i, rfl⟩ := Int.eq_ofNat_of_zero_le habi.1
  have hic : i < cs.length := by omega
  have hi1 : (i : Int) < (cs.length : Int) := by omega
  have hi0 : (0 : Int) ≤ (i : Int) := by omega
  have habj := ordB_b HOB.out (.inr (.inl rfl))
  simp only at habj
  obtain ⟨j, rfl⟩ := Int.eq_ofNat_of_zero_le habj.1
  have hjc : j < cs.length := by omega
  have hj1 : (j : Int) < (cs.length : Int) := by omega
  have hj0 : (0 : Int) ≤ (j : Int) := by omega
  have hfr := HFR.out i
  obtain ⟨_, _, hA, _, hcei⟩ := HCE.out i hic
  simp only [Option.some.injEq, Addr.mk.injEq, and_true] at hA
  obtain ⟨rfl, rfl⟩ := hA
  rw [Nat.zero_add] at hcei
  obtain ⟨_, _, hA, _, hcej⟩ := HCE.out j hjc
  simp only [Option.some.injEq, Addr.mk.injEq, and_true] at hA
  obtain ⟨rfl, rfl⟩ := hA
  rw [Nat.zero_add] at hcej
  have hvj := inB_iff.1 (hv _ (List.getElem_mem hjc))
  have HGj := Lib.hid (celAt_get hjc)
  obtain ⟨cj, hcj⟩ : ∃ cj, cj = cs[j] := ⟨_, rfl⟩
  rw [← hcj] at hcej HGj hvj
  clear hcj
  have HCD : Hid (corDo ⟨cs, (k : Int), false⟩ os clock ⟨3, (i : Int), (j : Int)⟩ = ⟨cs.set i cj, nx, false⟩) := by
    show corDo _ _ _ _ = _
    have e : corDo ⟨cs, (k : Int), false⟩ os clock ⟨3, (i : Int), (j : Int)⟩ = ⟨cs.set i (celAt cs j), ((k : Int) + 1) % (os.length : Int), false⟩ := rfl
    rw [e, HGj.out, HNX.out]
  go_upto_region 11 with (fail)
  go_region
  clear hcei hcej hfr
  have S1a := Lib.hid (S0.out.setc hic cj).drew
  obtain ⟨u1, hu1⟩ : ∃ u1, u1 = (u.setCell ⟨g, i, none⟩ (.int .i64 cj)).drew := ⟨_, rfl⟩
  rw [← hu1] at S1a ⊢
  have S1 := S1a
  clear hu1
  have S2 := Lib.hid (S1.out.at nx hXw)
  have HF := Lib.hid (S2.out.fin hXw h2 (.int .i64 3) (.int .i64 (i : Int)) (.int .i64 (j : Int)))
  clear x0 x1 x2 x3 x4 x5 x6 z0 z1 z2 z3 z4 z5 z6
  obtain ⟨x0, x1, x2, x3, x4, x5, x6⟩ := cell3 S1.out.box
  obtain ⟨z0, z1, z2, z3, z4, z5, z6⟩ := cell3 S2.out.ord
  obtain ⟨w0', w1', w2', w3', w4', w5', w6'⟩ := cell3 S1.out.ord
  obtain ⟨y0, y1, y2, y3, y4, y5, y6⟩ := cell3 S2.out.res
  obtain ⟨s0, s1, s2⟩ := res3 S2.out.res (.int .i64 3) (.int .i64 (i : Int)) (.int .i64 (j : Int))
  go_wp2
  exact bodyPost_ret (v := .agg #[.int .i64 3, .int .i64 (i : Int), .int .i64 (j : Int)]) (by simp [results, Try.results57, go_sem, s0, s1, s2]) rfl ⟨by rw [HCO.out], by rw [HCS.out, HCD.out]; exact HF.out.1, by rw [HCS.out, HCD.out]; exact HF.out.2.1, HF.out.2.2⟩
set_option maxRecDepth 100000 in
set_option maxHeartbeats 3200000 in
theorem callStep7 (X B0 base Bo : Nat) (A : Option Addr) (c : Nat) (cr : Cor) (Ao : Option Addr) (co : Nat) (os : List Ord3) (cells clock : Int) (w : World) (hX : w.heap[X]? = some (.cells #[.slice A cr.cs.length c, .int .i64 cr.at', .bool cr.stop] 33 (0, 0))) (hown : Own eInt 3 w base (.slice A cr.cs.length c) cr.cs)
    (hok : coreB cr os cells = true) (hck : 0 ≤ clock) (h0 : B0 ≤ X) (h1 : B0 ≤ base) (h2 : B0 ≤ w.heap.size) (hBo : Bo ≤ B0) (hr : Rd eOrd w Bo Ao os) (hst : cr.stop = false) (hopx : (ordAt os cr.at').op = 7) :
    Calls Try.prog 57 #[.pointer (some ⟨X, 0, none⟩), .slice Ao os.length co, .int .i64 clock] w (StepRes w X B0 base A c cr os clock) := by
  obtain ⟨hp, hl, ⟨ha0, ha1⟩, hv⟩ := coreB_iff.1 hok
  obtain ⟨⟨hn0, hn1⟩, ⟨hc0, hc1⟩, _⟩ := progB_iff.1 hp
  obtain ⟨k, hk⟩ := Int.eq_ofNat_of_zero_le ha0
  have hkl : k < os.length := by omega
  have hob := (ordAt_ok hp ha0 ha1).1
  have hXw := (cell3 hX).2.2.2.2.2.2
  obtain ⟨cs, at0, st⟩ := cr
  simp only at hst
  subst hst
  simp only at hX hown hl ha0 ha1 hv hk hob hopx
  subst hk
  have HCO : Hid (corOrd ⟨cs, (k : Int), false⟩ os = ordAt os k) := rfl
  have HCS : Hid (corStep ⟨cs, (k : Int), false⟩ os clock = corDo ⟨cs, (k : Int), false⟩ os clock (ordAt os k)) := rfl
  have HOA := Lib.hid (ordAt_get hkl)
  obtain ⟨b, off, rfl, hbB, o1, o2, o3⟩ := hr.at3 rfl hkl rfl
  rw [← HOA.out] at o1 o2 o3
  obtain ⟨o, ho⟩ : ∃ o, o = ordAt os (k : Int) := ⟨_, rfl⟩
  rw [← ho] at HCO HCS hob o1 o2 o3 hopx
  clear ho HOA
  obtain ⟨op, a, b'⟩ := o
  simp only at o1 o2 o3 hopx
  subst hopx
  obtain ⟨x0, x1, x2, x3, x4, x5, x6⟩ := cell3 hX
  have HX := Lib.hid hX
  have HO := Lib.hid hown
  have hbw : b < w.heap.size := by omega
  clear hX hown hok hp
  go_enter Try.func57, Try.ntmps57
  go_upto_region 5 with (fail)
  have S0 : Hid (STC w X B0 base A c (k : Int) false cs (w.heap.size + 1) ⟨7, a, b'⟩ ((w.alloc (.cells #[.int .i64 0, .int .i64 0, .int .i64 0] 41)).alloc (.cells #[.int .i64 7, .int .i64 a, .int .i64 b'] 41))) :=
    ⟨(below2 _ _ _).mono h2, blkc HX.out (below2 _ _ _), HO.out.next (below2 _ _ _), alloc_at0 _ _ _, alloc_at1 _ _ _, h0, h1, Nat.lt_succ_self _⟩
  obtain ⟨u, hu⟩ : ∃ u, u = ((w.alloc (.cells #[.int .i64 0, .int .i64 0, .int .i64 0] 41)).alloc (.cells #[.int .i64 7, .int .i64 a, .int .i64 b'] 41)) := ⟨_, rfl⟩
  rw [← hu] at S0 ⊢
  clear hu x0 x1 x2 x3 x4 x5 x6 HX HO o1 o2 o3
  obtain ⟨nx, hnx⟩ : ∃ nx, nx = ((k : Int) + 1) % (os.length : Int) := ⟨_, rfl⟩
  rw [← hnx]
  have HNX := Lib.hid hnx
  clear hnx
  obtain ⟨x0, x1, x2, x3, x4, x5, x6⟩ := cell3 S0.out.box
  obtain ⟨z0, z1, z2, z3, z4, z5, z6⟩ := cell3 S0.out.ord
  have hcl : 0 < cs.length := by omega
  have hcne : cs ≠ [] := by intro e; simp [e] at hcl
  obtain ⟨A', c', hA, _, hgg⟩ := S0.out.own.form
  injection hA with hA1 hA2 hA3
  subst hA1 hA3
  obtain ⟨g, rfl, hg1, hg2⟩ := hgg hcne
  clear hA2 hgg
  have HOB := Lib.hid hob
  have HFR := Lib.hid (fun i => S0.out.own.frozen (o := i) hcne)
  have HCE := Lib.hid (fun i (hi : i < cs.length) => S0.out.own.rd.at1 rfl hi rfl)
  clear hob hcne
  have habi := ordB_a HOB.out (.inr (.inr (.inr rfl)))
  simp only at habi
  obtain ⟨i, rfl⟩ := Int.eq_ofNat_of_zero_le habi.1
  have hic : i < cs.length := by omega
  have hi1 : (i : Int) < (cs.length : Int) := by omega
  have hi0 : (0 : Int) ≤ (i : Int) := by omega
  have hfr := HFR.out i
  obtain ⟨_, _, hA, _, hcei⟩ := HCE.out i hic
  simp only [Option.some.injEq, Addr.mk.injEq, and_true] at hA
  obtain ⟨rfl, rfl⟩ := hA
  rw [Nat.zero_add] at hcei
  obtain ⟨s, hs⟩ : ∃ s, s = clock % 256 := ⟨_, rfl⟩
  have hw2 : clock.tmod 256 = s := by rw [hs]; exact Int.tmod_eq_emod_of_nonneg hck
  have hw3 : IntKind.i64.wrap s = s := IntWalk.i64_in _ (by omega)
  have HCD : Hid (corDo ⟨cs, (k : Int), false⟩ os clock ⟨7, (i : Int), b'⟩ = ⟨cs.set i s, nx, false⟩) := by
    show corDo _ _ _ _ = _
    have e : corDo ⟨cs, (k : Int), false⟩ os clock ⟨7, (i : Int), b'⟩ = ⟨cs.set i (clock % 256), ((k : Int) + 1) % (os.length : Int), false⟩ := rfl
    rw [e, ← hs, HNX.out]
  clear hs
  go_upto_region 13 with (fail)
  go_region
  clear hcei hfr hw2 hw3
  have S1a := Lib.hid (S0.out.setc hic s).drew
  obtain ⟨u1, hu1⟩ : ∃ u1, u1 = (u.setCell ⟨g, i, none⟩ (.int .i64 s)).drew := ⟨_, rfl⟩
  rw [← hu1] at S1a ⊢
  have S1 := S1a
  clear hu1
  have S2 := Lib.hid (S1.out.at nx hXw)
  have HF := Lib.hid (S2.out.fin hXw h2 (.int .i64 7) (.int .i64 (i : Int)) (.int .i64 b'))
  clear x0 x1 x2 x3 x4 x5 x6 z0 z1 z2 z3 z4 z5 z6
  obtain ⟨x0, x1, x2, x3, x4, x5, x6⟩ := cell3 S1.out.box
  obtain ⟨z0, z1, z2, z3, z4, z5, z6⟩ := cell3 S2.out.ord
  obtain ⟨w0', w1', w2', w3', w4', w5', w6'⟩ := cell3 S1.out.ord
  obtain ⟨y0, y1, y2, y3, y4, y5, y6⟩ := cell3 S2.out.res
  obtain ⟨s0, s1, s2⟩ := res3 S2.out.res (.int .i64 7) (.int .i64 (i : Int)) (.int .i64 b')
  go_wp2
  exact bodyPost_ret (v := .agg #[.int .i64 7, .int .i64 (i : Int), .int .i64 b']) (by simp [results, Try.results57, go_sem, s0, s1, s2]) rfl ⟨by rw [HCO.out], by rw [HCS.out, HCD.out]; exact HF.out.1, by rw [HCS.out, HCD.out]; exact HF.out.2.1, HF.out.2.2⟩
set_option maxRecDepth 100000 in
set_option maxHeartbeats 3200000 in
theorem callStep4 (X B0 base Bo : Nat) (A : Option Addr) (c : Nat) (cr : Cor) (Ao : Option Addr) (co : Nat) (os : List Ord3) (cells clock : Int) (w : World) (hX : w.heap[X]? = some (.cells #[.slice A cr.cs.length c, .int .i64 cr.at', .bool cr.stop] 33 (0, 0))) (hown : Own eInt 3 w base (.slice A cr.cs.length c) cr.cs)
    (hok : coreB cr os cells = true) (_hck : 0 ≤ clock) (h0 : B0 ≤ X) (h1 : B0 ≤ base) (h2 : B0 ≤ w.heap.size) (hBo : Bo ≤ B0) (hr : Rd eOrd w Bo Ao os) (hst : cr.stop = false) (hopx : (ordAt os cr.at').op = 4) :
    Calls Try.prog 57 #[.pointer (some ⟨X, 0, none⟩), .slice Ao os.length co, .int .i64 clock] w (StepRes w X B0 base A c cr os clock) := by
  obtain ⟨hp, hl, ⟨ha0, ha1⟩, hv⟩ := coreB_iff.1 hok
  obtain ⟨⟨hn0, hn1⟩, ⟨hc0, hc1⟩, _⟩ := progB_iff.1 hp
  obtain ⟨k, hk⟩ := Int.eq_ofNat_of_zero_le ha0
  have hkl : k < os.length := by omega
  have hob := (ordAt_ok hp ha0 ha1).1
  have hXw := (cell3 hX).2.2.2.2.2.2
  obtain ⟨cs, at0, st⟩ := cr
  simp only at hst
  subst hst
  simp only at hX hown hl ha0 ha1 hv hk hob hopx
  subst hk
  have HCO : Hid (corOrd ⟨cs, (k : Int), false⟩ os = ordAt os k) := rfl
  have HCS : Hid (corStep ⟨cs, (k : Int), false⟩ os clock = corDo ⟨cs, (k : Int), false⟩ os clock (ordAt os k)) := rfl
  have HOA := Lib.hid (ordAt_get hkl)
  obtain ⟨b, off, rfl, hbB, o1, o2, o3⟩ := hr.at3 rfl hkl rfl
  rw [← HOA.out] at o1 o2 o3
  obtain ⟨o, ho⟩ : ∃ o, o = ordAt os (k : Int) := ⟨_, rfl⟩
  rw [← ho] at HCO HCS hob o1 o2 o3 hopx
  clear ho HOA
  obtain ⟨op, a, b'⟩ := o
  simp only at o1 o2 o3 hopx
  subst hopx
  obtain ⟨x0, x1, x2, x3, x4, x5, x6⟩ := cell3 hX
  have HX := Lib.hid hX
  have HO := Lib.hid hown
  have hbw : b < w.heap.size := by omega
  clear hX hown hok hp
  go_enter Try.func57, Try.ntmps57
  go_upto_region 5 with (fail)
  have S0 : Hid (STC w X B0 base A c (k : Int) false cs (w.heap.size + 1) ⟨4, a, b'⟩ ((w.alloc (.cells #[.int .i64 0, .int .i64 0, .int .i64 0] 41)).alloc (.cells #[.int .i64 4, .int .i64 a, .int .i64 b'] 41))) :=
    ⟨(below2 _ _ _).mono h2, blkc HX.out (below2 _ _ _), HO.out.next (below2 _ _ _), alloc_at0 _ _ _, alloc_at1 _ _ _, h0, h1, Nat.lt_succ_self _⟩
  obtain ⟨u, hu⟩ : ∃ u, u = ((w.alloc (.cells #[.int .i64 0, .int .i64 0, .int .i64 0] 41)).alloc (.cells #[.int .i64 4, .int .i64 a, .int .i64 b'] 41)) := ⟨_, rfl⟩
  rw [← hu] at S0 ⊢
  clear hu x0 x1 x2 x3 x4 x5 x6 HX HO o1 o2 o3
  obtain ⟨nx, hnx⟩ : ∃ nx, nx = ((k : Int) + 1) % (os.length : Int) := ⟨_, rfl⟩
  rw [← hnx]
  have HNX := Lib.hid hnx
  clear hnx
  obtain ⟨x0, x1, x2, x3, x4, x5, x6⟩ := cell3 S0.out.box
  obtain ⟨z0, z1, z2, z3, z4, z5, z6⟩ := cell3 S0.out.ord
  have hcl : 0 < cs.length := by omega
  have hcne : cs ≠ [] := by intro e; simp [e] at hcl
  obtain ⟨A', c', hA, _, hgg⟩ := S0.out.own.form
  injection hA with hA1 hA2 hA3
  subst hA1 hA3
  obtain ⟨g, rfl, hg1, hg2⟩ := hgg hcne
  clear hA2 hgg
  have HOB := Lib.hid hob
  have HFR := Lib.hid (fun i => S0.out.own.frozen (o := i) hcne)
  have HCE := Lib.hid (fun i (hi : i < cs.length) => S0.out.own.rd.at1 rfl hi rfl)
  clear hob hcne
  have habj := ordB_b HOB.out (.inr (.inr rfl))
  simp only at habj
  obtain ⟨j, rfl⟩ := Int.eq_ofNat_of_zero_le habj.1
  have hjc : j < cs.length := by omega
  have hj1 : (j : Int) < (cs.length : Int) := by omega
  have hj0 : (0 : Int) ≤ (j : Int) := by omega
  obtain ⟨_, _, hA, _, hcej⟩ := HCE.out j hjc
  simp only [Option.some.injEq, Addr.mk.injEq, and_true] at hA
  obtain ⟨rfl, rfl⟩ := hA
  rw [Nat.zero_add] at hcej
  have hvj := inB_iff.1 (hv _ (List.getElem_mem hjc))
  have HGj := Lib.hid (celAt_get hjc)
  obtain ⟨cj, hcj⟩ : ∃ cj, cj = cs[j] := ⟨_, rfl⟩
  rw [← hcj] at hcej HGj hvj
  clear hcj
  have HC4 : Hid (corDo ⟨cs, (k : Int), false⟩ os clock ⟨4, a, (j : Int)⟩ = ⟨cs, if cj = 0 then a else nx, false⟩) := by
    show corDo _ _ _ _ = _
    have e : corDo ⟨cs, (k : Int), false⟩ os clock ⟨4, a, (j : Int)⟩ = ⟨cs, if celAt cs j = 0 then a else ((k : Int) + 1) % (os.length : Int), false⟩ := rfl
    rw [e, HGj.out, HNX.out]
  by_cases hcz : cj = 0
  · have HCD : Hid (corDo ⟨cs, (k : Int), false⟩ os clock ⟨4, a, (j : Int)⟩ = ⟨cs, a, false⟩) := by show _ = _; rw [HC4.out, if_pos hcz]
    have hcq : (cj == 0) = true := by rw [beq_iff_eq]; exact hcz
    clear hcz
    go_upto_region 15 with (fail)
    go_region
    clear hcej
    have S1a := Lib.hid (S0.out.drew)
    obtain ⟨u1, hu1⟩ : ∃ u1, u1 = u.drew := ⟨_, rfl⟩
    rw [← hu1] at S1a ⊢
    have S1 := S1a
    clear hu1
    have S2 := Lib.hid (S1.out.at a hXw)
    have HF := Lib.hid (S2.out.fin hXw h2 (.int .i64 4) (.int .i64 a) (.int .i64 (j : Int)))
    clear x0 x1 x2 x3 x4 x5 x6 z0 z1 z2 z3 z4 z5 z6
    obtain ⟨x0, x1, x2, x3, x4, x5, x6⟩ := cell3 S1.out.box
    obtain ⟨z0, z1, z2, z3, z4, z5, z6⟩ := cell3 S2.out.ord
    obtain ⟨w0', w1', w2', w3', w4', w5', w6'⟩ := cell3 S1.out.ord
    obtain ⟨y0, y1, y2, y3, y4, y5, y6⟩ := cell3 S2.out.res
    obtain ⟨s0, s1, s2⟩ := res3 S2.out.res (.int .i64 4) (.int .i64 a) (.int .i64 (j : Int))
    go_wp2
    exact bodyPost_ret (v := .agg #[.int .i64 4, .int .i64 a, .int .i64 (j : Int)]) (by simp [results, Try.results57, go_sem, s0, s1, s2]) rfl ⟨by rw [HCO.out], by rw [HCS.out, HCD.out]; exact HF.out.1, by rw [HCS.out, HCD.out]; exact HF.out.2.1, HF.out.2.2⟩
  · have HCD : Hid (corDo ⟨cs, (k : Int), false⟩ os clock ⟨4, a, (j : Int)⟩ = ⟨cs, nx, false⟩) := by show _ = _; rw [HC4.out, if_neg hcz]
    have hcq : (cj == 0) = false := by rw [beq_eq_false_iff_ne]; exact hcz
    clear hcz
    go_upto_region 15 with (fail)
    go_region
    clear hcej
    have S1a := Lib.hid (S0.out.drew)
    obtain ⟨u1, hu1⟩ : ∃ u1, u1 = u.drew := ⟨_, rfl⟩
    rw [← hu1] at S1a ⊢
    have S1 := S1a
    clear hu1
    have S2 := Lib.hid (S1.out.at nx hXw)
    have HF := Lib.hid (S2.out.fin hXw h2 (.int .i64 4) (.int .i64 a) (.int .i64 (j : Int)))
    clear x0 x1 x2 x3 x4 x5 x6 z0 z1 z2 z3 z4 z5 z6
    obtain ⟨x0, x1, x2, x3, x4, x5, x6⟩ := cell3 S1.out.box
    obtain ⟨z0, z1, z2, z3, z4, z5, z6⟩ := cell3 S2.out.ord
    obtain ⟨w0', w1', w2', w3', w4', w5', w6'⟩ := cell3 S1.out.ord
    obtain ⟨y0, y1, y2, y3, y4, y5, y6⟩ := cell3 S2.out.res
    obtain ⟨s0, s1, s2⟩ := res3 S2.out.res (.int .i64 4) (.int .i64 a) (.int .i64 (j : Int))
    go_wp2
    exact bodyPost_ret (v := .agg #[.int .i64 4, .int .i64 a, .int .i64 (j : Int)]) (by simp [results, Try.results57, go_sem, s0, s1, s2]) rfl ⟨by rw [HCO.out], by rw [HCS.out, HCD.out]; exact HF.out.1, by rw [HCS.out, HCD.out]; exact HF.out.2.1, HF.out.2.2⟩
set_option maxRecDepth 100000 in
set_option maxHeartbeats 3200000 in
theorem callStep8 (X B0 base Bo : Nat) (A : Option Addr) (c : Nat) (cr : Cor) (Ao : Option Addr) (co : Nat) (os : List Ord3) (cells clock : Int) (w : World) (hX : w.heap[X]? = some (.cells #[.slice A cr.cs.length c, .int .i64 cr.at', .bool cr.stop] 33 (0, 0))) (hown : Own eInt 3 w base (.slice A cr.cs.length c) cr.cs)
    (hok : coreB cr os cells = true) (_hck : 0 ≤ clock) (h0 : B0 ≤ X) (h1 : B0 ≤ base) (h2 : B0 ≤ w.heap.size) (hBo : Bo ≤ B0) (hr : Rd eOrd w Bo Ao os) (hst : cr.stop = false) (hopx : (ordAt os cr.at').op = 8) :
    Calls Try.prog 57 #[.pointer (some ⟨X, 0, none⟩), .slice Ao os.length co, .int .i64 clock] w (StepRes w X B0 base A c cr os clock) := by
  obtain ⟨hp, hl, ⟨ha0, ha1⟩, hv⟩ := coreB_iff.1 hok
  obtain ⟨⟨hn0, hn1⟩, ⟨hc0, hc1⟩, _⟩ := progB_iff.1 hp
  obtain ⟨k, hk⟩ := Int.eq_ofNat_of_zero_le ha0
  have hkl : k < os.length := by omega
  have hob := (ordAt_ok hp ha0 ha1).1
  have hXw := (cell3 hX).2.2.2.2.2.2
  obtain ⟨cs, at0, st⟩ := cr
  simp only at hst
  subst hst
  simp only at hX hown hl ha0 ha1 hv hk hob hopx
  subst hk
  have HCO : Hid (corOrd ⟨cs, (k : Int), false⟩ os = ordAt os k) := rfl
  have HCS : Hid (corStep ⟨cs, (k : Int), false⟩ os clock = corDo ⟨cs, (k : Int), false⟩ os clock (ordAt os k)) := rfl
  have HOA := Lib.hid (ordAt_get hkl)
  obtain ⟨b, off, rfl, hbB, o1, o2, o3⟩ := hr.at3 rfl hkl rfl
  rw [← HOA.out] at o1 o2 o3
  obtain ⟨o, ho⟩ : ∃ o, o = ordAt os (k : Int) := ⟨_, rfl⟩
  rw [← ho] at HCO HCS hob o1 o2 o3 hopx
  clear ho HOA
  obtain ⟨op, a, b'⟩ := o
  simp only at o1 o2 o3 hopx
  subst hopx
  obtain ⟨x0, x1, x2, x3, x4, x5, x6⟩ := cell3 hX
  have HX := Lib.hid hX
  have HO := Lib.hid hown
  have hbw : b < w.heap.size := by omega
  clear hX hown hok hp
  go_enter Try.func57, Try.ntmps57
  go_upto_region 5 with (fail)
  have S0 : Hid (STC w X B0 base A c (k : Int) false cs (w.heap.size + 1) ⟨8, a, b'⟩ ((w.alloc (.cells #[.int .i64 0, .int .i64 0, .int .i64 0] 41)).alloc (.cells #[.int .i64 8, .int .i64 a, .int .i64 b'] 41))) :=
    ⟨(below2 _ _ _).mono h2, blkc HX.out (below2 _ _ _), HO.out.next (below2 _ _ _), alloc_at0 _ _ _, alloc_at1 _ _ _, h0, h1, Nat.lt_succ_self _⟩
  obtain ⟨u, hu⟩ : ∃ u, u = ((w.alloc (.cells #[.int .i64 0, .int .i64 0, .int .i64 0] 41)).alloc (.cells #[.int .i64 8, .int .i64 a, .int .i64 b'] 41)) := ⟨_, rfl⟩
  rw [← hu] at S0 ⊢
  clear hu x0 x1 x2 x3 x4 x5 x6 HX HO o1 o2 o3
  obtain ⟨nx, hnx⟩ : ∃ nx, nx = ((k : Int) + 1) % (os.length : Int) := ⟨_, rfl⟩
  rw [← hnx]
  have HNX := Lib.hid hnx
  clear hnx
  obtain ⟨x0, x1, x2, x3, x4, x5, x6⟩ := cell3 S0.out.box
  obtain ⟨z0, z1, z2, z3, z4, z5, z6⟩ := cell3 S0.out.ord
  have hcl : 0 < cs.length := by omega
  have hcne : cs ≠ [] := by intro e; simp [e] at hcl
  obtain ⟨A', c', hA, _, hgg⟩ := S0.out.own.form
  injection hA with hA1 hA2 hA3
  subst hA1 hA3
  obtain ⟨g, rfl, hg1, hg2⟩ := hgg hcne
  clear hA2 hgg
  have HOB := Lib.hid hob
  have HFR := Lib.hid (fun i => S0.out.own.frozen (o := i) hcne)
  have HCE := Lib.hid (fun i (hi : i < cs.length) => S0.out.own.rd.at1 rfl hi rfl)
  clear hob hcne
  have HCD : Hid (corDo ⟨cs, (k : Int), false⟩ os clock ⟨8, a, b'⟩ = ⟨cs, (k : Int), true⟩) := rfl
  obtain ⟨h0', h1', h2', h3', h4', h5', h6'⟩ := cell3 (S0.out.halt hXw).box
  have S1 := Lib.hid (S0.out.halt hXw)
  have S2 := Lib.hid (S1.out.at (k : Int) hXw)
  have HF := Lib.hid (S2.out.fin hXw h2 (.int .i64 8) (.int .i64 a) (.int .i64 b'))
  clear z0 z1 z2 z3 z4 z5 z6
  obtain ⟨t0, t1, t2, t3, t4, t5, t6⟩ := cell3 S0.out.ord
  obtain ⟨z0, z1, z2, z3, z4, z5, z6⟩ := cell3 S2.out.ord
  obtain ⟨w0', w1', w2', w3', w4', w5', w6'⟩ := cell3 S1.out.ord
  obtain ⟨y0, y1, y2, y3, y4, y5, y6⟩ := cell3 S2.out.res
  obtain ⟨s0, s1, s2⟩ := res3 S2.out.res (.int .i64 8) (.int .i64 a) (.int .i64 b')
  go_wp2
  exact bodyPost_ret (v := .agg #[.int .i64 8, .int .i64 a, .int .i64 b']) (by simp [results, Try.results57, go_sem, s0, s1, s2]) rfl ⟨by rw [HCO.out], by rw [HCS.out, HCD.out]; exact HF.out.1, by rw [HCS.out, HCD.out]; exact HF.out.2.1, HF.out.2.2⟩
set_option maxRecDepth 100000 in
set_option maxHeartbeats 3200000 in
theorem callStep5 (X B0 base Bo : Nat) (A : Option Addr) (c : Nat) (cr : Cor) (Ao : Option Addr) (co : Nat) (os : List Ord3) (cells clock : Int) (w : World) (hX : w.heap[X]? = some (.cells #[.slice A cr.cs.length c, .int .i64 cr.at', .bool cr.stop] 33 (0, 0))) (hown : Own eInt 3 w base (.slice A cr.cs.length c) cr.cs)
    (hok : coreB cr os cells = true) (_hck : 0 ≤ clock) (h0 : B0 ≤ X) (h1 : B0 ≤ base) (h2 : B0 ≤ w.heap.size) (hBo : Bo ≤ B0) (hr : Rd eOrd w Bo Ao os) (hst : cr.stop = false) (hopx : (ordAt os cr.at').op = 5) :
    Calls Try.prog 57 #[.pointer (some ⟨X, 0, none⟩), .slice Ao os.length co, .int .i64 clock] w (StepRes w X B0 base A c cr os clock) := by
  obtain ⟨hp, hl, ⟨ha0, ha1⟩, hv⟩ := coreB_iff.1 hok
  obtain ⟨⟨hn0, hn1⟩, ⟨hc0, hc1⟩, _⟩ := progB_iff.1 hp
  obtain ⟨k, hk⟩ := Int.eq_ofNat_of_zero_le ha0
  have hkl : k < os.length := by omega
  have hob := (ordAt_ok hp ha0 ha1).1
  have hXw := (cell3 hX).2.2.2.2.2.2
  obtain ⟨cs, at0, st⟩ := cr
  simp only at hst
  subst hst
  simp only at hX hown hl ha0 ha1 hv hk hob hopx
  subst hk
  have HCO : Hid (corOrd ⟨cs, (k : Int), false⟩ os = ordAt os k) := rfl
  have HCS : Hid (corStep ⟨cs, (k : Int), false⟩ os clock = corDo ⟨cs, (k : Int), false⟩ os clock (ordAt os k)) := rfl
  have HOA := Lib.hid (ordAt_get hkl)
  obtain ⟨b, off, rfl, hbB, o1, o2, o3⟩ := hr.at3 rfl hkl rfl
  rw [← HOA.out] at o1 o2 o3
  obtain ⟨o, ho⟩ : ∃ o, o = ordAt os (k : Int) := ⟨_, rfl⟩
  rw [← ho] at HCO HCS hob o1 o2 o3 hopx
  clear ho HOA
  obtain ⟨op, a, b'⟩ := o
  simp only at o1 o2 o3 hopx
  subst hopx
  obtain ⟨x0, x1, x2, x3, x4, x5, x6⟩ := cell3 hX
  have HX := Lib.hid hX
  have HO := Lib.hid hown
  have hbw : b < w.heap.size := by omega
  clear hX hown hok hp
  go_enter Try.func57, Try.ntmps57
  go_upto_region 5 with (fail)
  have S0 : Hid (STC w X B0 base A c (k : Int) false cs (w.heap.size + 1) ⟨5, a, b'⟩ ((w.alloc (.cells #[.int .i64 0, .int .i64 0, .int .i64 0] 41)).alloc (.cells #[.int .i64 5, .int .i64 a, .int .i64 b'] 41))) :=
    ⟨(below2 _ _ _).mono h2, blkc HX.out (below2 _ _ _), HO.out.next (below2 _ _ _), alloc_at0 _ _ _, alloc_at1 _ _ _, h0, h1, Nat.lt_succ_self _⟩
  obtain ⟨u, hu⟩ : ∃ u, u = ((w.alloc (.cells #[.int .i64 0, .int .i64 0, .int .i64 0] 41)).alloc (.cells #[.int .i64 5, .int .i64 a, .int .i64 b'] 41)) := ⟨_, rfl⟩
  rw [← hu] at S0 ⊢
  clear hu x0 x1 x2 x3 x4 x5 x6 HX HO o1 o2 o3
  obtain ⟨nx, hnx⟩ : ∃ nx, nx = ((k : Int) + 1) % (os.length : Int) := ⟨_, rfl⟩
  rw [← hnx]
  have HNX := Lib.hid hnx
  clear hnx
  obtain ⟨x0, x1, x2, x3, x4, x5, x6⟩ := cell3 S0.out.box
  obtain ⟨z0, z1, z2, z3, z4, z5, z6⟩ := cell3 S0.out.ord
  have hcl : 0 < cs.length := by omega
  have hcne : cs ≠ [] := by intro e; simp [e] at hcl
  obtain ⟨A', c', hA, _, hgg⟩ := S0.out.own.form
  injection hA with hA1 hA2 hA3
  subst hA1 hA3
  obtain ⟨g, rfl, hg1, hg2⟩ := hgg hcne
  clear hA2 hgg
  have HOB := Lib.hid hob
  have HFR := Lib.hid (fun i => S0.out.own.frozen (o := i) hcne)
  have HCE := Lib.hid (fun i (hi : i < cs.length) => S0.out.own.rd.at1 rfl hi rfl)
  clear hob hcne
  have HCD : Hid (corDo ⟨cs, (k : Int), false⟩ os clock ⟨5, a, b'⟩ = ⟨cs, nx, false⟩) := by
    show corDo _ _ _ _ = _
    have e : corDo ⟨cs, (k : Int), false⟩ os clock ⟨5, a, b'⟩ = ⟨cs, ((k : Int) + 1) % (os.length : Int), false⟩ := rfl
    rw [e, HNX.out]
  obtain ⟨t0, t1, t2, t3, t4, t5, t6⟩ := cell3 S0.out.ord
  have S1 := Lib.hid S0.out
  have S2 := Lib.hid (S1.out.at nx hXw)
  have HF := Lib.hid (S2.out.fin hXw h2 (.int .i64 5) (.int .i64 a) (.int .i64 b'))
  clear x0 x1 x2 x3 x4 x5 x6 z0 z1 z2 z3 z4 z5 z6
  obtain ⟨x0, x1, x2, x3, x4, x5, x6⟩ := cell3 S1.out.box
  obtain ⟨z0, z1, z2, z3, z4, z5, z6⟩ := cell3 S2.out.ord
  obtain ⟨w0', w1', w2', w3', w4', w5', w6'⟩ := cell3 S1.out.ord
  obtain ⟨y0, y1, y2, y3, y4, y5, y6⟩ := cell3 S2.out.res
  obtain ⟨s0, s1, s2⟩ := res3 S2.out.res (.int .i64 5) (.int .i64 a) (.int .i64 b')
  go_wp2
  exact bodyPost_ret (v := .agg #[.int .i64 5, .int .i64 a, .int .i64 b']) (by simp [results, Try.results57, go_sem, s0, s1, s2]) rfl ⟨by rw [HCO.out], by rw [HCS.out, HCD.out]; exact HF.out.1, by rw [HCS.out, HCD.out]; exact HF.out.2.1, HF.out.2.2⟩
set_option maxRecDepth 100000 in
set_option maxHeartbeats 3200000 in
theorem callStep6 (X B0 base Bo : Nat) (A : Option Addr) (c : Nat) (cr : Cor) (Ao : Option Addr) (co : Nat) (os : List Ord3) (cells clock : Int) (w : World) (hX : w.heap[X]? = some (.cells #[.slice A cr.cs.length c, .int .i64 cr.at', .bool cr.stop] 33 (0, 0))) (hown : Own eInt 3 w base (.slice A cr.cs.length c) cr.cs)
    (hok : coreB cr os cells = true) (_hck : 0 ≤ clock) (h0 : B0 ≤ X) (h1 : B0 ≤ base) (h2 : B0 ≤ w.heap.size) (hBo : Bo ≤ B0) (hr : Rd eOrd w Bo Ao os) (hst : cr.stop = false) (hopx : (ordAt os cr.at').op = 6) :
    Calls Try.prog 57 #[.pointer (some ⟨X, 0, none⟩), .slice Ao os.length co, .int .i64 clock] w (StepRes w X B0 base A c cr os clock) := by
  obtain ⟨hp, hl, ⟨ha0, ha1⟩, hv⟩ := coreB_iff.1 hok
  obtain ⟨⟨hn0, hn1⟩, ⟨hc0, hc1⟩, _⟩ := progB_iff.1 hp
  obtain ⟨k, hk⟩ := Int.eq_ofNat_of_zero_le ha0
  have hkl : k < os.length := by omega
  have hob := (ordAt_ok hp ha0 ha1).1
  have hXw := (cell3 hX).2.2.2.2.2.2
  obtain ⟨cs, at0, st⟩ := cr
  simp only at hst
  subst hst
  simp only at hX hown hl ha0 ha1 hv hk hob hopx
  subst hk
  have HCO : Hid (corOrd ⟨cs, (k : Int), false⟩ os = ordAt os k) := rfl
  have HCS : Hid (corStep ⟨cs, (k : Int), false⟩ os clock = corDo ⟨cs, (k : Int), false⟩ os clock (ordAt os k)) := rfl
  have HOA := Lib.hid (ordAt_get hkl)
  obtain ⟨b, off, rfl, hbB, o1, o2, o3⟩ := hr.at3 rfl hkl rfl
  rw [← HOA.out] at o1 o2 o3
  obtain ⟨o, ho⟩ : ∃ o, o = ordAt os (k : Int) := ⟨_, rfl⟩
  rw [← ho] at HCO HCS hob o1 o2 o3 hopx
  clear ho HOA
  obtain ⟨op, a, b'⟩ := o
  simp only at o1 o2 o3 hopx
  subst hopx
  obtain ⟨x0, x1, x2, x3, x4, x5, x6⟩ := cell3 hX
  have HX := Lib.hid hX
  have HO := Lib.hid hown
  have hbw : b < w.heap.size := by omega
  clear hX hown hok hp
  go_enter Try.func57, Try.ntmps57
  go_upto_region 5 with (fail)
  have S0 : Hid (STC w X B0 base A c (k : Int) false cs (w.heap.size + 1) ⟨6, a, b'⟩ ((w.alloc (.cells #[.int .i64 0, .int .i64 0, .int .i64 0] 41)).alloc (.cells #[.int .i64 6, .int .i64 a, .int .i64 b'] 41))) :=
    ⟨(below2 _ _ _).mono h2, blkc HX.out (below2 _ _ _), HO.out.next (below2 _ _ _), alloc_at0 _ _ _, alloc_at1 _ _ _, h0, h1, Nat.lt_succ_self _⟩
  obtain ⟨u, hu⟩ : ∃ u, u = ((w.alloc (.cells #[.int .i64 0, .int .i64 0, .int .i64 0] 41)).alloc (.cells #[.int .i64 6, .int .i64 a, .int .i64 b'] 41)) := ⟨_, rfl⟩
  rw [← hu] at S0 ⊢
  clear hu x0 x1 x2 x3 x4 x5 x6 HX HO o1 o2 o3
  obtain ⟨nx, hnx⟩ : ∃ nx, nx = ((k : Int) + 1) % (os.length : Int) := ⟨_, rfl⟩
  rw [← hnx]
  have HNX := Lib.hid hnx
  clear hnx
  obtain ⟨x0, x1, x2, x3, x4, x5, x6⟩ := cell3 S0.out.box
  obtain ⟨z0, z1, z2, z3, z4, z5, z6⟩ := cell3 S0.out.ord
  have hcl : 0 < cs.length := by omega
  have hcne : cs ≠ [] := by intro e; simp [e] at hcl
  obtain ⟨A', c', hA, _, hgg⟩ := S0.out.own.form
  injection hA with hA1 hA2 hA3
  subst hA1 hA3
  obtain ⟨g, rfl, hg1, hg2⟩ := hgg hcne
  clear hA2 hgg
  have HOB := Lib.hid hob
  have HFR := Lib.hid (fun i => S0.out.own.frozen (o := i) hcne)
  have HCE := Lib.hid (fun i (hi : i < cs.length) => S0.out.own.rd.at1 rfl hi rfl)
  clear hob hcne
  have HCD : Hid (corDo ⟨cs, (k : Int), false⟩ os clock ⟨6, a, b'⟩ = ⟨cs, nx, false⟩) := by
    show corDo _ _ _ _ = _
    have e : corDo ⟨cs, (k : Int), false⟩ os clock ⟨6, a, b'⟩ = ⟨cs, ((k : Int) + 1) % (os.length : Int), false⟩ := rfl
    rw [e, HNX.out]
  obtain ⟨t0, t1, t2, t3, t4, t5, t6⟩ := cell3 S0.out.ord
  have S1 := Lib.hid S0.out
  have S2 := Lib.hid (S1.out.at nx hXw)
  have HF := Lib.hid (S2.out.fin hXw h2 (.int .i64 6) (.int .i64 a) (.int .i64 b'))
  clear x0 x1 x2 x3 x4 x5 x6 z0 z1 z2 z3 z4 z5 z6
  obtain ⟨x0, x1, x2, x3, x4, x5, x6⟩ := cell3 S1.out.box
  obtain ⟨z0, z1, z2, z3, z4, z5, z6⟩ := cell3 S2.out.ord
  obtain ⟨w0', w1', w2', w3', w4', w5', w6'⟩ := cell3 S1.out.ord
  obtain ⟨y0, y1, y2, y3, y4, y5, y6⟩ := cell3 S2.out.res
  obtain ⟨s0, s1, s2⟩ := res3 S2.out.res (.int .i64 6) (.int .i64 a) (.int .i64 b')
  go_wp2
  exact bodyPost_ret (v := .agg #[.int .i64 6, .int .i64 a, .int .i64 b']) (by simp [results, Try.results57, go_sem, s0, s1, s2]) rfl ⟨by rw [HCO.out], by rw [HCS.out, HCD.out]; exact HF.out.1, by rw [HCS.out, HCD.out]; exact HF.out.2.1, HF.out.2.2⟩
set_option maxRecDepth 100000 in
set_option maxHeartbeats 3200000 in
theorem callStep0 (X B0 base Bo : Nat) (A : Option Addr) (c : Nat) (cr : Cor) (Ao : Option Addr) (co : Nat) (os : List Ord3) (cells clock : Int) (w : World) (hX : w.heap[X]? = some (.cells #[.slice A cr.cs.length c, .int .i64 cr.at', .bool cr.stop] 33 (0, 0))) (hown : Own eInt 3 w base (.slice A cr.cs.length c) cr.cs)
    (hok : coreB cr os cells = true) (_hck : 0 ≤ clock) (h0 : B0 ≤ X) (h1 : B0 ≤ base) (h2 : B0 ≤ w.heap.size) (hBo : Bo ≤ B0) (hr : Rd eOrd w Bo Ao os) (hst : cr.stop = false) (hopx : (ordAt os cr.at').op = 0) :
    Calls Try.prog 57 #[.pointer (some ⟨X, 0, none⟩), .slice Ao os.length co, .int .i64 clock] w (StepRes w X B0 base A c cr os clock) := by
  obtain ⟨hp, hl, ⟨ha0, ha1⟩, hv⟩ := coreB_iff.1 hok
  obtain ⟨⟨hn0, hn1⟩, ⟨hc0, hc1⟩, _⟩ := progB_iff.1 hp
  obtain ⟨k, hk⟩ := Int.eq_ofNat_of_zero_le ha0
  have hkl : k < os.length := by omega
  have hob := (ordAt_ok hp ha0 ha1).1
  have hXw := (cell3 hX).2.2.2.2.2.2
  obtain ⟨cs, at0, st⟩ := cr
  simp only at hst
  subst hst
  simp only at hX hown hl ha0 ha1 hv hk hob hopx
  subst hk
  have HCO : Hid (corOrd ⟨cs, (k : Int), false⟩ os = ordAt os k) := rfl
  have HCS : Hid (corStep ⟨cs, (k : Int), false⟩ os clock = corDo ⟨cs, (k : Int), false⟩ os clock (ordAt os k)) := rfl
  have HOA := Lib.hid (ordAt_get hkl)
  obtain ⟨b, off, rfl, hbB, o1, o2, o3⟩ := hr.at3 rfl hkl rfl
  rw [← HOA.out] at o1 o2 o3
  obtain ⟨o, ho⟩ : ∃ o, o = ordAt os (k : Int) := ⟨_, rfl⟩
  rw [← ho] at HCO HCS hob o1 o2 o3 hopx
  clear ho HOA
  obtain ⟨op, a, b'⟩ := o
  simp only at o1 o2 o3 hopx
  subst hopx
  obtain ⟨x0, x1, x2, x3, x4, x5, x6⟩ := cell3 hX
  have HX := Lib.hid hX
  have HO := Lib.hid hown
  have hbw : b < w.heap.size := by omega
  clear hX hown hok hp
  go_enter Try.func57, Try.ntmps57
  go_upto_region 5 with (fail)
  have S0 : Hid (STC w X B0 base A c (k : Int) false cs (w.heap.size + 1) ⟨0, a, b'⟩ ((w.alloc (.cells #[.int .i64 0, .int .i64 0, .int .i64 0] 41)).alloc (.cells #[.int .i64 0, .int .i64 a, .int .i64 b'] 41))) :=
    ⟨(below2 _ _ _).mono h2, blkc HX.out (below2 _ _ _), HO.out.next (below2 _ _ _), alloc_at0 _ _ _, alloc_at1 _ _ _, h0, h1, Nat.lt_succ_self _⟩
  obtain ⟨u, hu⟩ : ∃ u, u = ((w.alloc (.cells #[.int .i64 0, .int .i64 0, .int .i64 0] 41)).alloc (.cells #[.int .i64 0, .int .i64 a, .int .i64 b'] 41)) := ⟨_, rfl⟩
  rw [← hu] at S0 ⊢
  clear hu x0 x1 x2 x3 x4 x5 x6 HX HO o1 o2 o3
  obtain ⟨nx, hnx⟩ : ∃ nx, nx = ((k : Int) + 1) % (os.length : Int) := ⟨_, rfl⟩
  rw [← hnx]
  have HNX := Lib.hid hnx
  clear hnx
  obtain ⟨x0, x1, x2, x3, x4, x5, x6⟩ := cell3 S0.out.box
  obtain ⟨z0, z1, z2, z3, z4, z5, z6⟩ := cell3 S0.out.ord
  have hcl : 0 < cs.length := by omega
  have hcne : cs ≠ [] := by intro e; simp [e] at hcl
  obtain ⟨A', c', hA, _, hgg⟩ := S0.out.own.form
  injection hA with hA1 hA2 hA3
  subst hA1 hA3
  obtain ⟨g, rfl, hg1, hg2⟩ := hgg hcne
  clear hA2 hgg
  have HOB := Lib.hid hob
  have HFR := Lib.hid (fun i => S0.out.own.frozen (o := i) hcne)
  have HCE := Lib.hid (fun i (hi : i < cs.length) => S0.out.own.rd.at1 rfl hi rfl)
  clear hob hcne
  have HCD : Hid (corDo ⟨cs, (k : Int), false⟩ os clock ⟨0, a, b'⟩ = ⟨cs, nx, false⟩) := by
    show corDo _ _ _ _ = _
    have e : corDo ⟨cs, (k : Int), false⟩ os clock ⟨0, a, b'⟩ = ⟨cs, ((k : Int) + 1) % (os.length : Int), false⟩ := rfl
    rw [e, HNX.out]
  obtain ⟨t0, t1, t2, t3, t4, t5, t6⟩ := cell3 S0.out.ord
  have S1 := Lib.hid S0.out
  have S2 := Lib.hid (S1.out.at nx hXw)
  have HF := Lib.hid (S2.out.fin hXw h2 (.int .i64 0) (.int .i64 a) (.int .i64 b'))
  clear x0 x1 x2 x3 x4 x5 x6 z0 z1 z2 z3 z4 z5 z6
  obtain ⟨x0, x1, x2, x3, x4, x5, x6⟩ := cell3 S1.out.box
  obtain ⟨z0, z1, z2, z3, z4, z5, z6⟩ := cell3 S2.out.ord
  obtain ⟨w0', w1', w2', w3', w4', w5', w6'⟩ := cell3 S1.out.ord
  obtain ⟨y0, y1, y2, y3, y4, y5, y6⟩ := cell3 S2.out.res
  obtain ⟨s0, s1, s2⟩ := res3 S2.out.res (.int .i64 0) (.int .i64 a) (.int .i64 b')
  go_wp2
  exact bodyPost_ret (v := .agg #[.int .i64 0, .int .i64 a, .int .i64 b']) (by simp [results, Try.results57, go_sem, s0, s1, s2]) rfl ⟨by rw [HCO.out], by rw [HCS.out, HCD.out]; exact HF.out.1, by rw [HCS.out, HCD.out]; exact HF.out.2.1, HF.out.2.2⟩
set_option maxRecDepth 100000 in
set_option maxHeartbeats 3200000 in
theorem callStepS (X B0 base Bo : Nat) (A : Option Addr) (c : Nat) (cr : Cor) (Ao : Option Addr) (co : Nat) (os : List Ord3) (cells clock : Int) (w : World) (hX : w.heap[X]? = some (.cells #[.slice A cr.cs.length c, .int .i64 cr.at', .bool cr.stop] 33 (0, 0))) (hown : Own eInt 3 w base (.slice A cr.cs.length c) cr.cs)
    (hok : coreB cr os cells = true) (_hck : 0 ≤ clock) (_h0 : B0 ≤ X) (_h1 : B0 ≤ base) (h2 : B0 ≤ w.heap.size) (_hBo : Bo ≤ B0) (_hr : Rd eOrd w Bo Ao os) (hst : cr.stop = true) :
    Calls Try.prog 57 #[.pointer (some ⟨X, 0, none⟩), .slice Ao os.length co, .int .i64 clock] w (StepRes w X B0 base A c cr os clock) := by
  obtain ⟨hp, hl, ⟨ha0, ha1⟩, hv⟩ := coreB_iff.1 hok
  obtain ⟨⟨hn0, hn1⟩, ⟨hc0, hc1⟩, _⟩ := progB_iff.1 hp
  obtain ⟨k, hk⟩ := Int.eq_ofNat_of_zero_le ha0
  have hkl : k < os.length := by omega
  have hob := (ordAt_ok hp ha0 ha1).1
  have hXw := (cell3 hX).2.2.2.2.2.2
  obtain ⟨cs, at0, st⟩ := cr
  simp only at hst
  subst hst
  simp only at hX hown hl ha0 ha1 hv hk hob
  subst hk
  have HCO : Hid (corOrd ⟨cs, (k : Int), true⟩ os = ⟨0, 0, 0⟩) := rfl
  have HCS : Hid (corStep ⟨cs, (k : Int), true⟩ os clock = ⟨cs, (k : Int), true⟩) := rfl
  obtain ⟨x0, x1, x2, x3, x4, x5, x6⟩ := cell3 hX
  have HX := Lib.hid hX
  have HO := Lib.hid hown
  have HZ := Lib.hid (heap_alloc_new w (.cells #[.int .i64 0, .int .i64 0, .int .i64 0] 41))
  clear hX hown hok hp hob
  obtain ⟨y0, y1, y2, y3, y4, y5, y6⟩ := cell3 HZ.out
  go_enter Try.func57, Try.ntmps57
  go_wp2
  exact bodyPost_ret (v := .agg #[.int .i64 0, .int .i64 0, .int .i64 0]) (by simp [results, Try.results57, go_sem]) rfl ⟨by rw [HCO.out], by rw [HCS.out]; exact blkc HX.out (below1 _ _), by rw [HCS.out]; exact HO.out.alloc _, (below1 _ _).mono h2⟩
end Go.Proofs.Ytiodpnhokjkjaaa
