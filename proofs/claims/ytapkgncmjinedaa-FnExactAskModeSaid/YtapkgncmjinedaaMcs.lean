/- Copies of modes: l11Copy of the reference, for every input. -/
import Derived.Test.YtapkgncmjinedaaMco
import Derived.Test.YtapkgncmjinedaaStp
namespace Go.Proofs.Ytapkgncmjinedaa
open Go.RowKit Go.Sort
/-- The argument's box, the result's box, and the box of the copy that grows. -/
structure MX (w : World) (k : Nat) (A : Option Addr) (c : Nat) (ts : List Tab) (A' : Option Addr) (c' : Nat) (us : List Tab) (now next : Int) (wx : World) : Prop where
  bel : Below w.heap.size w wx
  par : wx.heap[w.heap.size]? = some (.cells #[.slice A ts.length c, .int .i64 now, .int .i64 next] 25 (0, 0))
  res : wx.heap[w.heap.size + 1]? = some (.cells #[.slice none 0 0, .int .i64 0, .int .i64 0] 25 (0, 0))
  box : wx.heap[w.heap.size + 2]? = some (.cells #[.slice A' us.length c', .int .i64 now, .int .i64 next] 25 (0, 0))
  own : OwnT wx w.heap.size (.slice A' us.length c') us
  map : us.map Tab.slots = (ts.take k).map Tab.slots
theorem OwnT.next {w w' : World} {base : Nat} {v : Value} {ts : List Tab} (h : OwnT w base v ts) (hb : Below w.heap.size w w') : OwnT w' base v ts := ⟨h.1.next hb, fun p hp => ⟨(h.2 p hp).1.next hb, (h.2 p hp).2⟩⟩
section
variable {w wx w' : World} {k : Nat} {A A' A'' : Option Addr} {c c' c'' : Nat} {ts us vs : List Tab} {now next : Int}
theorem MX.keep (s : MX w k A c ts A' c' us now next wx) (hb : Below wx.heap.size wx w') : MX w k A c ts A' c' us now next w' :=
  ⟨bel_trans s.bel hb, blkc s.par hb, blkc s.res hb, blkc s.box hb, s.own.next hb, s.map⟩
theorem MX.grown {row : Option Nat} {v : Value} (s : MX w k A c ts A' c' us now next wx) (hg : wx.grownBy w' row)
    (hr : ∀ k, row = some k → w.heap.size ≤ k ∧ v.ownBlock = some k ∧ ∃ cur, wx.heap[k]? = some (.cells cur 33 (0, 0))) :
    Below w.heap.size w w' ∧ w'.heap[w.heap.size]? = some (.cells #[.slice A ts.length c, .int .i64 now, .int .i64 next] 25 (0, 0)) ∧ w'.heap[w.heap.size + 1]? = some (.cells #[.slice none 0 0, .int .i64 0, .int .i64 0] 25 (0, 0)) ∧ w'.heap[w.heap.size + 2]? = some (.cells #[.slice A' us.length c', .int .i64 now, .int .i64 next] 25 (0, 0)) := by
  have hne : ∀ {z : Nat} {o : Array Value} {fz : Nat × Nat}, wx.heap[z]? = some (.cells o 25 fz) → some z ≠ row := fun h e => by
    obtain ⟨_, _, cur, h'⟩ := hr _ e.symm
    rw [h] at h'
    injection h' with h'
    injection h' with _ h'
    exact absurd h' (by decide)
  exact ⟨s.bel.grown hg s.bel.size (fun k hk => (hr k hk).1), gblk hg s.par (hne s.par), gblk hg s.res (hne s.res), gblk hg s.box (hne s.box)⟩
theorem MX.put {row : Option Nat} {v : Value} (s : MX w k A c ts A' c' us now next wx) (hg : wx.grownBy w' row)
    (hr : ∀ k, row = some k → w.heap.size ≤ k ∧ v.ownBlock = some k ∧ ∃ cur, wx.heap[k]? = some (.cells cur 33 (0, 0)))
    (ho : OwnT w' w.heap.size (.slice A'' vs.length c'') vs) (hm : vs.map Tab.slots = (ts.take (k + 1)).map Tab.slots) :
    MX w (k + 1) A c ts A'' c'' vs now next (w'.setCell ⟨w.heap.size + 2, 0, none⟩ (.slice A'' vs.length c'')) := by
  obtain ⟨b, p, r, x⟩ := s.grown hg hr
  have G := gset (w := w') (g := w.heap.size + 2) 0 (.slice A'' vs.length c'')
  exact ⟨b.setCell (p := ⟨w.heap.size + 2, 0, none⟩) (by show _ ≤ w.heap.size + 2; omega) _, gblk G p (by simp), gblk G r (by simp), set3a x, ho.otherM G x, hm⟩
end
theorem take_map_snoc {ts us : List Tab} {k : Nat} (hk : k < ts.length) {y : Tab} (h : us.map Tab.slots = (ts.take k).map Tab.slots) (hy : y.slots = ts[k].slots) : (us ++ [y]).map Tab.slots = (ts.take (k + 1)).map Tab.slots := by
  rw [List.take_succ_eq_append_getElem hk, List.map_append, List.map_append, h]
  simp [hy]
set_option maxRecDepth 100000 in
set_option maxHeartbeats 6400000 in
theorem callSCopyOfModes (A : Option Addr) (c : Nat) (ts : List Tab) (now next : Int) (w : World) (B : Nat) (hB : B ≤ w.heap.size) (hm : ts.length ≤ 4) (hcap : CapT ts) (hr : RdT w B A ts) :
    Calls Try.prog 74 #[.agg #[.slice A ts.length c, .int .i64 now, .int .i64 next]] w fun e w' =>
      ∃ A' c' us, e = .returned (.agg #[.slice A' (us : List Tab).length c', .int .i64 now, .int .i64 next]) ∧ OwnT w' w.heap.size (.slice A' us.length c') us ∧ us.map Tab.slots = ts.map Tab.slots ∧ Below w.heap.size w w' := by
  have HV := Lib.hid (below2 w (.cells #[.slice A ts.length c, .int .i64 now, .int .i64 next] 25) (.cells #[.slice none 0 0, .int .i64 0, .int .i64 0] 25))
  have K0 := Lib.hid (alloc_at0 w (.cells #[.slice A ts.length c, .int .i64 now, .int .i64 next] 25) (.cells #[.slice none 0 0, .int .i64 0, .int .i64 0] 25))
  have K1 := Lib.hid (alloc_at1 w (.cells #[.slice A ts.length c, .int .i64 now, .int .i64 next] 25) (.cells #[.slice none 0 0, .int .i64 0, .int .i64 0] 25))
  have HR := Lib.hid (hr.below (HV.out.mono hB))
  have HCAP := Lib.hid hcap
  clear hr hcap
  go_enter Try.func74, Try.ntmps74
  go_upto_region 1 with (fail)
  have hsz : ((w.alloc (.cells #[.slice A ts.length c, .int .i64 now, .int .i64 next] 25)).alloc (.cells #[.slice none 0 0, .int .i64 0, .int .i64 0] 25)).heap.size = w.heap.size + 2 := by simp
  obtain ⟨u, hu⟩ : ∃ u, u = ((w.alloc (.cells #[.slice A ts.length c, .int .i64 now, .int .i64 next] 25)).alloc (.cells #[.slice none 0 0, .int .i64 0, .int .i64 0] 25)) := ⟨_, rfl⟩
  rw [← hu] at HV K0 K1 HR hsz ⊢
  clear hu
  have hsu : w.heap.size + 1 < u.heap.size := (cell3 K1.out).2.2.2.2.2.2
  obtain ⟨x0, x1, x2, x3, x4, x5, x6⟩ := cell3 K0.out
  go_upto_region 2 with (fail)
  have S1 : Hid (MX w 0 A c ts none 0 [] now next (u.alloc (.cells #[.slice none 0 0, .int .i64 now, .int .i64 next] 25))) := by
    have h := heap_alloc_new u (.cells #[.slice none 0 0, .int .i64 now, .int .i64 next] 25)
    rw [hsz] at h
    exact ⟨bel_trans HV.out (below1 u _), blkc K0.out (below1 u _), blkc K1.out (below1 u _), h, OwnT.none_, by simp⟩
  have HR1 : Hid (RdT (u.alloc (.cells #[.slice none 0 0, .int .i64 now, .int .i64 next] 25)) B A ts) := HR.out.below ((below1 u _).mono (by omega))
  obtain ⟨v, hv⟩ : ∃ v, v = u.alloc (.cells #[.slice none 0 0, .int .i64 now, .int .i64 next] 25) := ⟨_, rfl⟩
  rw [← hv] at S1 HR1 ⊢
  clear hv hsz hsu K0 K1 HV HR x0 x1 x2 x3 x4 x5 x6
  go_wp2_with fail
  go_loopw [4] (fun i wr => ∃ (k : Nat) (A' : Option Addr) (c' : Nat) (us : List Tab), i = .int .i64 k ∧ k ≤ ts.length ∧ Hid (MX w k A c ts A' c' us now next wr) ∧ Hid (RdT wr B A ts) ∧ Hid (us.length = k)) (fun i _ => ts.length - (intOf i).toNat)
  case atStart => exact ⟨0, none, 0, [], rfl, by omega, S1.out, HR1.out, rfl⟩
  case round =>
    clear S1 HR1
    obtain ⟨k, A', c', us, rfl, hk, SR, HRR, HUL⟩ := hrel
    obtain ⟨x0, x1, x2, _, _, _, x6⟩ := cell3 SR.out.par
    obtain ⟨y0, y1, y2, y3, y4, y5, y6⟩ := cell3 SR.out.box
    by_cases hlt : k < ts.length
    · have hd : decide ((k : Int) < (ts.length : Int)) = true := decide_eq_true (by omega)
      obtain ⟨b, off, rfl, hbB, h1⟩ := HRR.out.1.at1 rfl hlt rfl
      have hbw : b < wr.heap.size := by have := SR.out.bel.size; omega
      have HS := Lib.hid (HRR.out.slots hlt).1
      have HC20 := Lib.hid (HCAP.out _ (List.getElem_mem hlt))
      have Ba : Hid (Below wr.heap.size wr (wr.alloc (.cells #[] 96)).drew) := (below1 _ _).drew
      have RD1 : Hid (Rd eSlt (wr.alloc (.cells #[] 96)).drew B ts[k].A ts[k].slots) := HS.out.below (Ba.out.mono (by have := SR.out.bel.size; omega))
      have hroom1 : Hid (([] : List Slt).length + ts[k].slots.length ≤ 1073741824) := by show 0 + _ ≤ _; have := HC20.out.2; omega
      have hroom2 : us.length + 1 ≤ 1073741824 := by have := HUL.out; omega
      go_upto_region 5 with (fail)
      go_region_law (first
        | (refine step_app (w := (wr.alloc (.cells #[] 96)).drew) (n := ts[k].slots.length) (c := ts[k].c) eiSlt rfl (.tmp 19) (.tmp 24) rfl wr.heap.size (xs := []) (Own.none_ (A := some ⟨wr.heap.size, 0, none⟩)) RD1.out rfl (by simp [Act.eval]) (by simp [Act.eval]) hroom1.out Ba.out.size ?_; intro v' w4 row hown4' hg4 hrow4; have hown4 : Own eSlt 96 w4 wr.heap.size v' ts[k].slots := hown4'; obtain ⟨A4, c4, hv4, hc4, _⟩ := hown4.form; subst hv4; have HB4 := Lib.hid (Ba.out.trans (below_of_row hg4 (fun k hk => (hrow4 k hk).1) Ba.out.size)); have S4 := Lib.hid (SR.out.keep HB4.out); have HO4 := Lib.hid (hown4.more (base' := w.heap.size) SR.out.bel.size); clear hown4 hown4' hg4 hrow4; obtain ⟨n0, n1, n2, n3, n4, n5, n6⟩ := cell3 S4.out.box)
        | (refine step_app (w := w4.alloc (.cells #[.slice A4 ts[k].slots.length c4] 33)) (n := 1) (c := 1) eiTab (by rfl) (.tmp 18) (.tmp 26) rfl w.heap.size (xs := us) (ys := [(⟨A4, c4, ts[k].slots⟩ : Tab)]) (S4.out.own.1.alloc _) (Rd.new (E := eTab) (xs := [(⟨A4, c4, ts[k].slots⟩ : Tab)]) _ _ _ rfl) rfl (by simp [Act.eval]) (by simp [Act.eval]) hroom2 (by have := S4.out.bel.size; simp; omega) ?_; intro v' w6 row ho6 hg6 hrow6; obtain ⟨A6, c6, hv6, hc6, _⟩ := ho6.form; subst hv6; have S5 := Lib.hid (S4.out.keep (below1 w4 (.cells #[.slice A4 ts[k].slots.length c4] 33))); have HT6 := Lib.hid (S5.out.own.app (p := ⟨A4, c4, ts[k].slots⟩) (HO4.out.alloc _) HC20.out.2 ho6 hg6 hrow6); have HK6 := Lib.hid (S5.out.grown hg6 hrow6); have S7 := Lib.hid (S5.out.put hg6 hrow6 HT6.out (take_map_snoc hlt S5.out.map rfl)); have HR7 : Hid (RdT (w6.setCell ⟨w.heap.size + 2, 0, none⟩ (.slice A6 (us ++ [(⟨A4, c4, ts[k].slots⟩ : Tab)]).length c6)) B (some ⟨b, off, none⟩) ts) := (HRR.out.below ((HB4.out.mono (by have := SR.out.bel.size; omega)).trans (((below1 w4 _).mono (by have := S4.out.bel.size; omega)).trans ((below_of_row hg6 (fun k hk => by have := (hrow6 k hk).1; omega) (by have := S4.out.bel.size; simp; omega)).trans ((Below.refl _ _).setCell (p := ⟨w.heap.size + 2, 0, none⟩) (by show B ≤ w.heap.size + 2; omega) _))))); obtain ⟨m0, m1, m2, m3, m4, m5, m6⟩ := cell3 HK6.out.2.2.2; clear ho6 hg6 hrow6))
      all_goals
        go_wp2_with fail
        go_roundw
        case rel => exact ⟨k + 1, A6, c6, us ++ [(⟨A4, c4, ts[k].slots⟩ : Tab)], by go_num, by omega, by show MX _ _ _ _ _ _ _ _ _ _ _; simpa using S7.out, by show RdT _ _ _ _; simpa using HR7.out, by show _ = _; have := HUL.out; simp; omega⟩
        case measure => simp [intOf]; omega
    · have hke : k = ts.length := by omega
      have hd : decide ((k : Int) < (ts.length : Int)) = false := decide_eq_false (by omega)
      obtain ⟨r0, r1, r2, r3, r4, r5, r6⟩ := cell3 SR.out.res
      obtain ⟨f0, f1, f2⟩ := res3 SR.out.res (.slice A' us.length c') (.int .i64 now) (.int .i64 next)
      have HO := Lib.hid (modes3 SR.out.res (.slice A' us.length c') (.int .i64 now) (.int .i64 next) SR.out.own)
      have HBF := Lib.hid (bset3 (b := w.heap.size + 1) SR.out.bel (by omega) (.slice A' us.length c') (.int .i64 now) (.int .i64 next))
      have HMP : Hid (us.map Tab.slots = ts.map Tab.slots) := by have := SR.out.map; rw [hke, List.take_length] at this; exact this
      clear hke
      go_wp2_with fail
      exact bodyPost_ret (v := .agg #[.slice A' us.length c', .int .i64 now, .int .i64 next]) (by simp [results, Try.results74, go_sem, f0, f1, f2]) rfl ⟨A', c', us, rfl, HO.out, HMP.out, HBF.out⟩
end Go.Proofs.Ytapkgncmjinedaa
