/- Copies of modes: Modes.copyOf of the program, for every input. -/
import Derived.Test.YtapkgncmjinedaaMdx
import Derived.Deep.RegionLaw
namespace Go.Proofs.Ytapkgncmjinedaa
open Go.RowKit Go.Sort
/-- The modes that a copying loop works on: the first k frames are copied. -/
structure MC (w : World) (k : Nat) (A : Option Addr) (ts us : List Tab) (now next : Int) (wx : World) : Prop where
  bel : Below w.heap.size w wx
  box : wx.heap[w.heap.size]? = some (.cells #[.slice A us.length us.length, .int .i64 now, .int .i64 next] 25 (0, 0))
  res : wx.heap[w.heap.size + 1]? = some (.cells #[.slice none 0 0, .int .i64 0, .int .i64 0] 25 (0, 0))
  own : Own eTab 33 wx w.heap.size (.slice A us.length us.length) us
  cop : ∀ i (h : i < us.length), i < k → Own eSlt 96 wx w.heap.size (.slice us[i].A us[i].slots.length us[i].c) us[i].slots ∧ us[i].slots.length ≤ 20
  map : us.map Tab.slots = ts.map Tab.slots
  rest : ∀ i (h : i < us.length) (h' : i < ts.length), k ≤ i → us[i] = ts[i]
section
variable {w wx w' : World} {k : Nat} {A : Option Addr} {ts us : List Tab} {now next : Int}
theorem MC.len (s : MC w k A ts us now next wx) : us.length = ts.length := by have := congrArg List.length s.map; simpa using this
theorem MC.blk (s : MC w k A ts us now next wx) (hk : k < us.length) : ∃ b, A = some ⟨b, 0, none⟩ ∧ w.heap.size ≤ b ∧ b < wx.heap.size ∧ wx.frozen? ⟨b, k, none⟩ = false ∧ wx.cell? ⟨b, k, none⟩ = some (.slice us[k].A us[k].slots.length us[k].c) ∧ (∃ cur, wx.heap[b]? = some (.cells cur 33 (0, 0))) := by
  have hne : us ≠ [] := by intro e; simp [e] at hk
  obtain ⟨A', c', hv, _, hA⟩ := s.own.form
  injection hv with hA'
  subst hA'
  obtain ⟨b, rfl, h1, h2⟩ := hA hne
  obtain ⟨bb, oo, hAA, _, e0⟩ := s.own.rd.at1 rfl hk rfl
  simp only [Option.some.injEq, Addr.mk.injEq, and_true] at hAA
  obtain ⟨rfl, rfl⟩ := hAA
  rw [Nat.zero_add] at e0
  exact ⟨b, rfl, h1, h2, s.own.frozen hne, e0, (s.own.blk hne).2⟩
theorem MC.keep (s : MC w k A ts us now next wx) (hb : Below wx.heap.size wx w') : MC w k A ts us now next w' :=
  ⟨bel_trans s.bel hb, blkc s.box hb, blkc s.res hb, s.own.next hb, fun i h hi => ⟨(s.cop i h hi).1.next hb, (s.cop i h hi).2⟩, s.map, s.rest⟩
theorem MC.drew (s : MC w k A ts us now next wx) : MC w k A ts us now next wx.drew := ⟨below_drew s.bel, s.box, s.res, s.own, s.cop, s.map, s.rest⟩
theorem MC.put {b : Nat} {y : Tab} (s : MC w k (some ⟨b, 0, none⟩) ts us now next wx) (hk : k < us.length) (hy : Own eSlt 96 wx w.heap.size (.slice y.A y.slots.length y.c) y.slots) (hl : y.slots.length ≤ 20) (he : y.slots = us[k].slots) :
    MC w (k + 1) (some ⟨b, 0, none⟩) ts (us.set k y) now next (wx.setCell ⟨b, k, none⟩ (.slice y.A y.slots.length y.c)) := by
  obtain ⟨b', hbb, h1, h2, _, _, cur, hcur⟩ := s.blk hk
  simp only [Option.some.injEq, Addr.mk.injEq, and_true] at hbb
  subst hbb
  have hne : ∀ {z : Nat} {o : Array Value} {fz : Nat × Nat}, wx.heap[z]? = some (.cells o 25 fz) → z ≠ b := fun h e => by
    subst e
    rw [hcur] at h
    injection h with h
    injection h with _ h
    exact absurd h (by decide)
  have G := gset (w := wx) (g := b) k (.slice y.A y.slots.length y.c)
  have hr' : ∀ j, some b = some j → j < w.heap.size ∨ ∃ cur t fr, wx.heap[j]? = some (.cells cur t fr) ∧ t ≠ 96 := fun j hj => by
    cases hj; exact .inr ⟨cur, _, _, hcur, by decide⟩
  have h3 := s.own.set (E := eTab) (i := k) (j := 0) (x := us[k]) (y := y) (u := .slice y.A y.slots.length y.c) (List.getElem?_eq_getElem hk) (by decide) rfl
  refine ⟨s.bel.setCell (p := ⟨b, k, none⟩) h1 _, by rw [List.length_set]; exact gblk G s.box (by simpa using hne s.box), gblk G s.res (by simpa using hne s.res), by rw [List.length_set]; simpa using h3, fun i h hi => ?_, ?_, fun i h h' hi => ?_⟩
  · rw [List.length_set] at h
    by_cases hik : i = k
    · subst hik
      rw [List.getElem_set_self]
      exact ⟨hy.keptOther G hr', hl⟩
    · rw [List.getElem_set_ne (fun e => hik e.symm)]
      have := s.cop i h (by omega)
      exact ⟨this.1.keptOther G hr', this.2⟩
  · rw [List.map_set, he, ← s.map]
    rw [show us[k].slots = (us.map Tab.slots)[k]'(by simpa using hk) by simp]
    exact List.set_getElem_self _
  · rw [List.length_set] at h
    rw [List.getElem_set_ne (by omega)]
    exact s.rest i h h' (by omega)
theorem MC.done (s : MC w k A ts us now next wx) (hk : us.length ≤ k) : OwnT wx w.heap.size (.slice A us.length us.length) us :=
  ⟨s.own, fun t ht => by obtain ⟨i, hi, rfl⟩ := List.getElem_of_mem ht; exact s.cop i hi (by omega)⟩
end
set_option maxRecDepth 100000 in
set_option maxHeartbeats 3200000 in
theorem callCopyOfModes (A : Option Addr) (c : Nat) (ts : List Tab) (now next : Int) (w : World) (B : Nat) (hB : B ≤ w.heap.size) (hc : ts.length ≤ c) (hm : ts.length ≤ 4) (hcap : CapT ts) (hr : RdT w B A ts) :
    Calls Try.prog 72 #[.agg #[.slice A ts.length c, .int .i64 now, .int .i64 next]] w fun e w' =>
      ∃ A' us, e = .returned (.agg #[.slice A' (us : List Tab).length us.length, .int .i64 now, .int .i64 next]) ∧ OwnT w' w.heap.size (.slice A' us.length us.length) us ∧ us.map Tab.slots = ts.map Tab.slots ∧ Below w.heap.size w w' := by
  have HV := Lib.hid (below2 w (.cells #[.slice A ts.length c, .int .i64 now, .int .i64 next] 25) (.cells #[.slice none 0 0, .int .i64 0, .int .i64 0] 25))
  have K0 := Lib.hid (alloc_at0 w (.cells #[.slice A ts.length c, .int .i64 now, .int .i64 next] 25) (.cells #[.slice none 0 0, .int .i64 0, .int .i64 0] 25))
  have K1 := Lib.hid (alloc_at1 w (.cells #[.slice A ts.length c, .int .i64 now, .int .i64 next] 25) (.cells #[.slice none 0 0, .int .i64 0, .int .i64 0] 25))
  have HR := Lib.hid (hr.below (HV.out.mono hB))
  have HCAP := Lib.hid hcap
  clear hr hcap
  go_enter Try.func72, Try.ntmps72
  go_upto_region 1 with (fail)
  obtain ⟨u, hu⟩ : ∃ u, u = ((w.alloc (.cells #[.slice A ts.length c, .int .i64 now, .int .i64 next] 25)).alloc (.cells #[.slice none 0 0, .int .i64 0, .int .i64 0] 25)) := ⟨_, rfl⟩
  rw [← hu] at HV K0 K1 HR ⊢
  clear hu
  have hsu : w.heap.size + 1 < u.heap.size := (cell3 K1.out).2.2.2.2.2.2
  obtain ⟨x0, x1, x2, x3, x4, x5, x6⟩ := cell3 K0.out
  go_wp2_with fail
  refine (callCopyTab A c ts u B (by omega) hc (by omega) HR.out.1).mono ?_
  rintro e w1 ⟨A1, rfl, hown, hb1⟩
  obtain ⟨y0, y1, y2, y3, y4, y5, y6⟩ := cell3 (blkc K0.out hb1)
  have S1 : Hid (MC w 0 A1 ts ts now next (w1.setCell ⟨w.heap.size, 0, none⟩ (.slice A1 ts.length ts.length))) := by
    have G := gset (w := w1) (g := w.heap.size) 0 (.slice A1 ts.length ts.length)
    have h0 := blkc K0.out hb1
    exact ⟨(bel_trans HV.out hb1).setCell (p := ⟨w.heap.size, 0, none⟩) (Nat.le_refl _) _, set3a h0, gblk G (blkc K1.out hb1) (by simp), (hown.more (by omega)).keptOther G (fun j hj => by cases hj; exact .inr ⟨_, _, _, h0, by decide⟩), fun i h hi => by omega, rfl, fun _ _ _ _ => rfl⟩
  have HB1 := Lib.hid (bel_trans HV.out hb1)
  have HR1 : Hid (∀ t, t ∈ ts → Rd eSlt (w1.setCell ⟨w.heap.size, 0, none⟩ (.slice A1 ts.length ts.length)) B t.A t.slots) := fun t ht => ((HR.out.2 t ht).1.below (hb1.mono (by omega))).below ((Below.refl _ _).setCell (p := ⟨w.heap.size, 0, none⟩) hB _)
  clear hown hb1 HR K0 K1 HV x0 x1 x2 x3 x4 x5 x6
  go_upto_region 2 with (fail)
  obtain ⟨v, hv⟩ : ∃ v, v = w1.setCell ⟨w.heap.size, 0, none⟩ (.slice A1 ts.length ts.length) := ⟨_, rfl⟩
  rw [← hv] at S1 HR1 ⊢
  clear hv y0 y1 y2 y3 y4 y5 y6
  obtain ⟨x0, x1, x2, x3, x4, x5, x6⟩ := cell3 S1.out.box
  have HSV : Hid (Below v.heap.size v v) := Below.refl _ _
  go_wp2_with fail
  go_loopw [3, 4, 12] (fun _ _ i wr => ∃ (k : Nat) (us : List Tab), i = .int .i64 k ∧ k ≤ ts.length ∧ Hid (MC w k A1 ts us now next wr) ∧ Hid (∀ t, t ∈ ts → Rd eSlt wr B t.A t.slots)) (fun _ _ i _ => ts.length - (intOf i).toNat)
  case atStart => exact ⟨0, ts, rfl, by omega, S1.out, HR1.out⟩
  case round =>
    clear S1 HR1 HSV
    obtain ⟨k, us, rfl, hk, SR, HRR⟩ := hrel
    have HLN := Lib.hid SR.out.len
    by_cases hlt : k < ts.length
    · have hlu : k < us.length := by have := HLN.out; omega
      have hd : decide ((k : Int) < (ts.length : Int)) = true := decide_eq_true (by omega)
      have hd2 : decide ((k : Int) < (us.length : Int)) = true := decide_eq_true (by omega)
      obtain ⟨b, rfl, hb1, hb2, hb3, hb4, _⟩ := SR.out.blk hlu
      have HE := Lib.hid (SR.out.rest k hlu hlt (Nat.le_refl _))
      rw [HE.out] at hb4
      have HC1 : Hid (∀ W, Below wr.heap.size wr W → Calls Try.prog 98 #[.slice ts[k].A ts[k].slots.length ts[k].c] W fun e w' => ∃ A', e = .returned (.slice A' ts[k].slots.length ts[k].slots.length) ∧ Own eSlt 96 w' W.heap.size (.slice A' ts[k].slots.length ts[k].slots.length) ts[k].slots ∧ Below W.heap.size W w') := fun W hW =>
        callCopySlt ts[k].A ts[k].c ts[k].slots W B (by have := SR.out.bel.size; have := hW.size; omega) (HCAP.out _ (List.getElem_mem hlt)).1 (by have := (HCAP.out _ (List.getElem_mem hlt)).2; omega) ((HRR.out _ (List.getElem_mem hlt)).below (hW.mono (by have := SR.out.bel.size; omega)))
      obtain ⟨x0, x1, x2, x3, x4, x5, x6⟩ := cell3 SR.out.box
      go_upto_region 5 with (fail)
      go_region_law (go_simp; go_at_call 98; refine (HC1.out _ (below_drew (Below.refl _ _))).mono ?_; rintro e w5 ⟨A5, rfl, ho5, hb5⟩; have S5 := Lib.hid (SR.out.drew.keep hb5); obtain ⟨n0, n1, n2, n3, n4, n5, n6⟩ := cell3 S5.out.box; obtain ⟨b', hbb, c1, c2, c3, c4, _⟩ := S5.out.blk hlu; simp only [Option.some.injEq, Addr.mk.injEq, and_true] at hbb; subst hbb; have SF := Lib.hid (S5.out.put (y := ⟨A5, ts[k].slots.length, ts[k].slots⟩) hlu (ho5.more SR.out.bel.size) (HCAP.out _ (List.getElem_mem hlt)).2 (by rw [HE.out])); have HRF : Hid (∀ t, t ∈ ts → Rd eSlt (w5.setCell ⟨b, k, none⟩ (.slice A5 ts[k].slots.length ts[k].slots.length)) B t.A t.slots) := (fun t ht => ((HRR.out t ht).below ((below_drew (Below.refl B wr)).trans (hb5.mono (by have := SR.out.bel.size; show B ≤ wr.heap.size; omega)))).below ((Below.refl _ _).setCell (p := ⟨b, k, none⟩) (by show B ≤ b; omega) _)); clear ho5 hb5)
      all_goals
        go_wp2_with fail
        go_roundw
        case rel => exact ⟨k + 1, us.set k ⟨A5, ts[k].slots.length, ts[k].slots⟩, by go_num, by omega, SF.out, HRF.out⟩
        case measure => simp [intOf]; omega
    · have hke : us.length ≤ k := by have := HLN.out; omega
      have hd : decide ((k : Int) < (ts.length : Int)) = false := decide_eq_false (by omega)
      obtain ⟨x0, x1, x2, x3, x4, x5, x6⟩ := cell3 SR.out.box
      obtain ⟨r0, r1, r2, r3, r4, r5, r6⟩ := cell3 SR.out.res
      obtain ⟨f0, f1, f2⟩ := res3 SR.out.res (.slice A1 us.length us.length) (.int .i64 now) (.int .i64 next)
      have HO := Lib.hid (modes3 SR.out.res (.slice A1 us.length us.length) (.int .i64 now) (.int .i64 next) (SR.out.done hke))
      have HBF := Lib.hid (bset3 (b := w.heap.size + 1) SR.out.bel (by omega) (.slice A1 us.length us.length) (.int .i64 now) (.int .i64 next))
      have HMP := Lib.hid SR.out.map
      go_wp2_with fail
      exact bodyPost_ret (v := .agg #[.slice A1 us.length us.length, .int .i64 now, .int .i64 next]) (by simp [results, Try.results72, go_sem, f0, f1, f2]) rfl ⟨A1, us, rfl, HO.out, HMP.out, HBF.out⟩
end Go.Proofs.Ytapkgncmjinedaa
